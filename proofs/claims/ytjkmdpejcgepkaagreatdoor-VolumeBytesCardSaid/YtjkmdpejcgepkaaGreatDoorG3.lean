/- Plain laws of citations as texts: what is spelled is read again, and nothing else. -/
import Derived.Test.YtjkmdpejcgepkaaGreatDoorG1
import Derived.Test.YtjkmdpejcgepkaaGreatDoorD7
namespace Go.Proofs.YtjkmdpejcgepkaaGreatDoor
open Go.RowKit
def digB (c : UInt8) : Prop := 48 ≤ c.toNat ∧ c.toNat ≤ 57
instance (c : UInt8) : Decidable (digB c) := by unfold digB; infer_instance
theorem ofNat_dig {d : Nat} (h : d < 10) : (UInt8.ofNat (48 + d)).toNat = 48 + d := by
  rw [UInt8.toNat_ofNat']; omega
theorem dec_digs (u : Nat) : ∀ c ∈ Lib.decDigits u, digB c := by
  induction u using Nat.strongRecOn with
  | _ u ih =>
    rw [Lib.decDigits]
    split
    · rename_i h
      intro c hc
      simp only [List.mem_singleton] at hc
      subst hc
      unfold digB; rw [ofNat_dig h]; omega
    · rename_i h
      intro c hc
      rcases List.mem_append.1 hc with hc | hc
      · exact ih (u / 10) (by omega) c hc
      · simp only [List.mem_singleton] at hc
        subst hc
        unfold digB; rw [ofNat_dig (Nat.mod_lt _ (by decide))]; omega
theorem dec_ne (u : Nat) : Lib.decDigits u ≠ [] := by
  intro h
  have := Lib.decDigits_length u
  rw [h] at this
  have := Lib.nDigits_pos u
  simp at *
  omega
theorem p10_snoc (l : List UInt8) (acc v d : Nat) (h : Lib.parseUint10 acc l = .ok v) (hv : v ≤ 1000000) (hd : d < 10) : Lib.parseUint10 acc (l ++ [UInt8.ofNat (48 + d)]) = .ok (v * 10 + d) := by
  induction l generalizing acc with
  | nil =>
    simp only [Lib.parseUint10, Lib.NumEnd.ok.injEq] at h
    subst h
    simp only [List.nil_append, Lib.parseUint10, ofNat_dig hd]
    rw [if_pos (by omega), if_neg (by omega), if_neg (by omega)]
    congr 1
    omega
  | cons c r ih =>
    simp only [Lib.parseUint10] at h
    simp only [List.cons_append, Lib.parseUint10]
    split at h
    · rename_i h1
      rw [if_pos h1]
      split at h
      · cases h
      · rename_i h2
        rw [if_neg h2]
        split at h
        · cases h
        · rename_i h3
          rw [if_neg h3]
          exact ih _ h
    · cases h
theorem p10_dec (u : Nat) (h : u ≤ 1000000) : Lib.parseUint10 0 (Lib.decDigits u) = .ok u := by
  induction u using Nat.strongRecOn with
  | _ u ih =>
    rw [Lib.decDigits]
    split
    · rename_i h1
      have := p10_snoc [] 0 0 u rfl (by omega) h1
      simpa using this
    · rename_i h1
      have := p10_snoc _ 0 _ (u % 10) (ih (u / 10) (by omega) (by omega)) (by omega) (Nat.mod_lt _ (by decide))
      rw [this]
      congr 1
      omega
theorem atoi_itoa (n : Nat) (h : n ≤ 999999) : Lib.atoiAll (Lib.itoa (n : Int)) = .ok (n : Int) := by
  have e : Lib.itoa (n : Int) = Lib.decDigits n := by unfold Lib.itoa; rw [if_neg (by omega)]; simp
  rw [e]
  have hp := p10_dec n (by omega)
  have hd := dec_digs n
  have hn := dec_ne n
  cases hl : Lib.decDigits n with
  | nil => exact absurd hl hn
  | cons c r =>
    rw [hl] at hp hd
    have hc := hd c (List.mem_cons_self ..)
    unfold digB at hc
    rw [Lib.atoiAll_plain c r (by omega) (by omega)]
    unfold Lib.parseMag
    rw [if_neg (by simp), hp]
    simp only [Lib.signless]
    rw [if_neg (by omega)]
theorem itoa_digs {n : Int} (h : 0 ≤ n) : ∀ c ∈ Lib.itoa n, digB c := by
  unfold Lib.itoa
  rw [if_neg (by omega)]
  exact dec_digs _
theorem itoa_ne {n : Int} (h : 0 ≤ n) : Lib.itoa n ≠ [] := by
  unfold Lib.itoa
  rw [if_neg (by omega)]
  exact dec_ne _
theorem numOf_itoa {n : Int} (h1 : 0 ≤ n) (h2 : n ≤ 999999) : numOf (Lib.itoa n) = some n := by
  obtain ⟨m, rfl⟩ := Int.eq_ofNat_of_zero_le h1
  unfold numOf
  rw [atoi_itoa m (by omega)]
  dsimp only
  rw [if_pos ⟨rfl, h1, h2⟩]
theorem numOf_some {l : List UInt8} {v : Int} (h : numOf l = some v) : l = Lib.itoa v ∧ 0 ≤ v ∧ v ≤ 999999 := by
  have hin := numOf_in h
  unfold numOf at h
  split at h
  · split at h
    · rename_i h1; cases h; exact ⟨h1.1.symm, hin⟩
    · cases h
  · cases h
theorem itoa_inj {a b : Int} (ha : 0 ≤ a ∧ a ≤ 999999) (hb : 0 ≤ b ∧ b ≤ 999999) (h : Lib.itoa a = Lib.itoa b) : a = b := by
  have h1 := numOf_itoa ha.1 ha.2
  rw [h, numOf_itoa hb.1 hb.2] at h1
  exact (Option.some.inj h1).symm
theorem occ_at (p q : List UInt8) (c : UInt8) (tl : List UInt8) (hp : c ∉ p) : Lib.index (p ++ (c :: tl) ++ q) (c :: tl) = p.length := by
  refine Lib.index_first (by simp) ?_ ?_
  · unfold Lib.occAt
    rw [List.append_assoc, List.drop_left']
    · rw [List.isPrefixOf_iff_prefix]; exact List.prefix_append _ _
    · rfl
  · intro j hj
    unfold Lib.occAt
    cases hd : List.drop j (p ++ (c :: tl) ++ q) with
    | nil => rfl
    | cons b r =>
      have hb : (p ++ (c :: tl) ++ q)[j]? = some b := by
        rw [← List.head?_drop, hd]; rfl
      rw [List.append_assoc, List.getElem?_append_left hj, List.getElem?_eq_getElem hj] at hb
      have hbp : b ∈ p := by cases hb; exact List.getElem_mem hj
      rw [List.isPrefixOf]
      have : (c == b) = false := by
        rw [beq_eq_false_iff_ne]
        rintro rfl
        exact hp hbp
      rw [this]; rfl
theorem cut_at (p q : List UInt8) (c : UInt8) (tl : List UInt8) (hp : c ∉ p) : Lib.cut (p ++ (c :: tl) ++ q) (c :: tl) = (p, q, true) := by
  unfold Lib.cut
  rw [occ_at p q c tl hp, if_pos (by omega)]
  simp only [Int.toNat_natCast]
  refine Prod.ext ?_ (Prod.ext ?_ rfl)
  · simp [List.append_assoc]
  · simp only
    rw [← List.length_append, List.drop_left']
    rfl
theorem cut_some {r e : List UInt8} (h : (Lib.cut r e).2.2 = true) : r = (Lib.cut r e).1 ++ e ++ (Lib.cut r e).2.1 := by
  unfold Lib.cut at h ⊢
  split at h
  · rename_i h0
    rw [if_pos h0]
    rcases Lib.index_spec r e with ⟨h1, -⟩ | ⟨i, h1, h2, h3, -⟩
    · omega
    · rw [h1]
      simp only [Int.toNat_natCast]
      unfold Lib.occAt at h3
      rw [List.isPrefixOf_iff_prefix] at h3
      obtain ⟨t, ht⟩ := h3
      rw [← List.drop_drop, ← ht, List.drop_left' rfl, List.append_assoc, ht, List.take_append_drop]
  · simp at h
theorem numC_spell {n : Int} (h1 : 0 ≤ n) (h2 : n ≤ 999999) (c : UInt8) (tl q : List UInt8) (hc : ¬ digB c) : numC (c :: tl) (Lib.itoa n ++ (c :: tl) ++ q) = some (n, q) := by
  have hp : c ∉ Lib.itoa n := fun h => hc (itoa_digs h1 c h)
  unfold numC wordOf
  rw [if_neg (by simp), cut_at _ _ _ _ hp]
  simp only [if_true]
  rw [numOf_itoa h1 h2]; rfl
theorem numC_last {n : Int} (h1 : 0 ≤ n) (h2 : n ≤ 999999) : numC [] (Lib.itoa n) = some (n, Lib.itoa n) := by
  unfold numC wordOf
  rw [if_pos rfl]
  simp only
  rw [numOf_itoa h1 h2]; rfl
theorem numC_some {e r : List UInt8} {p : Int × List UInt8} (he : e ≠ []) (h : numC e r = some p) : r = Lib.itoa p.1 ++ e ++ p.2 ∧ 0 ≤ p.1 ∧ p.1 ≤ 999999 := by
  unfold numC wordOf at h
  rw [if_neg he] at h
  by_cases hc : (Lib.cut r e).2.2 = true
  · rw [if_pos hc] at h
    simp only at h
    obtain ⟨v, hv, rfl⟩ := Option.map_eq_some_iff.1 h
    obtain ⟨h1, h2⟩ := numOf_some hv
    refine ⟨?_, h2⟩
    simp only
    rw [← h1]
    exact cut_some hc
  · rw [if_neg hc] at h
    cases h
theorem numC_some0 {r : List UInt8} {p : Int × List UInt8} (h : numC [] r = some p) : r = Lib.itoa p.1 ∧ 0 ≤ p.1 ∧ p.1 ≤ 999999 := by
  unfold numC wordOf at h
  rw [if_pos rfl] at h
  simp only at h
  obtain ⟨v, hv, rfl⟩ := Option.map_eq_some_iff.1 h
  exact numOf_some hv
def sVol : List UInt8 := [118, 111, 108, 46, 32]
def sCol0 : List UInt8 := [99, 111, 108, 46, 32]
/-- the text of a citation -/
def spellQ (q : Int × Int × Int × Int) : List UInt8 :=
  if q.1 = 2 then Lib.itoa q.2.1 ++ [64] ++ Lib.itoa q.2.2.1
  else if q.1 = 0 then sVol ++ (Lib.itoa q.2.1 ++ [44, 32, 99, 111, 108, 46, 32] ++ (Lib.itoa q.2.2.1 ++ [44, 32, 108, 46, 32] ++ Lib.itoa q.2.2.2))
  else sVol ++ (Lib.itoa q.2.1 ++ [44, 32] ++ (Lib.itoa q.2.2.1 ++ [44, 32, 112, 97, 114, 46, 32] ++ Lib.itoa q.2.2.2))
def okQ (q : Int × Int × Int × Int) : Prop := (q.1 = 0 ∨ q.1 = 1 ∨ q.1 = 2 ∧ q.2.2.2 = 0) ∧ (0 ≤ q.2.1 ∧ q.2.1 ≤ 999999) ∧ (0 ≤ q.2.2.1 ∧ q.2.2.1 ≤ 999999) ∧ (0 ≤ q.2.2.2 ∧ q.2.2.2 ≤ 999999) ∧ (q.1 ≠ 0 → dayB q.2.2.1 = true)
theorem pre_vol (t : List UInt8) : Lib.hasPrefix (sVol ++ t) bVol.data.toList = true ∧ Lib.trimPrefix (sVol ++ t) bVol.data.toList = t := by
  have h : Lib.hasPrefix (sVol ++ t) bVol.data.toList = true := by
    unfold Lib.hasPrefix; rw [List.isPrefixOf_iff_prefix]; exact List.prefix_append _ _
  refine ⟨h, ?_⟩
  unfold Lib.trimPrefix
  rw [if_pos h]
  exact List.drop_left' (l₁ := sVol) rfl
theorem pre_dig {l t : List UInt8} (hl : ∀ c ∈ l, digB c) (hn : l ≠ []) : Lib.hasPrefix (l ++ t) bVol.data.toList = false := by
  cases l with
  | nil => exact absurd rfl hn
  | cons c r =>
    have hc := hl c (List.mem_cons_self ..)
    unfold Lib.hasPrefix
    show List.isPrefixOf [118, 111, 108, 46, 32] (c :: (r ++ t)) = false
    rw [List.isPrefixOf]
    have : ((118 : UInt8) == c) = false := by
      rw [beq_eq_false_iff_ne]
      rintro rfl
      exact absurd hc (by decide)
    rw [this]; rfl
theorem has_col (p q : List UInt8) : Lib.contains (p ++ sCol0 ++ q) sCol0 = true := by
  unfold Lib.contains
  simp only [decide_eq_true_eq]
  rcases Lib.index_spec (p ++ sCol0 ++ q) sCol0 with ⟨-, h2⟩ | ⟨i, h1, -⟩
  · have := h2 p.length (by simp)
    unfold Lib.occAt at this
    rw [List.append_assoc, List.drop_left' rfl] at this
    have h3 : sCol0.isPrefixOf (sCol0 ++ q) = true := by rw [List.isPrefixOf_iff_prefix]; exact List.prefix_append _ _
    rw [h3] at this; cases this
  · rw [h1]; omega
theorem no_col (s : List UInt8) (h : (99 : UInt8) ∉ s) : Lib.contains s sCol0 = false := by
  unfold Lib.contains
  simp only [decide_eq_false_iff_not]
  rcases Lib.index_spec s sCol0 with ⟨h1, -⟩ | ⟨i, h1, h2, h3, -⟩
  · omega
  · exfalso
    unfold Lib.occAt at h3
    rw [List.isPrefixOf_iff_prefix] at h3
    have : (99 : UInt8) ∈ s.drop i := h3.subset (by decide)
    exact h (List.mem_of_mem_drop this)
theorem not_mem_itoa {n : Int} (h : 0 ≤ n) {c : UInt8} (hc : ¬ digB c) : c ∉ Lib.itoa n := fun hm => hc (itoa_digs h c hm)
theorem parse_spell {q : Int × Int × Int × Int} (h : okQ q) : parseC (spellQ q) = some q := by
  obtain ⟨st, a, b, c⟩ := q
  obtain ⟨h1, ha, hb, hc, hd⟩ := h
  simp only at h1 ha hb hc hd
  have fin : parse0 (spellQ (st, a, b, c)) = some (st, a, b, c) → parseC (spellQ (st, a, b, c)) = some (st, a, b, c) := fun h => by
    unfold parseC
    rw [h]
    simp only [Option.bind_some]
    rw [if_neg]
    rintro ⟨h2, h3⟩
    rw [hd h2] at h3; cases h3
  apply fin
  by_cases h2 : st = 2
  · subst h2
    obtain rfl : c = 0 := by omega
    have e : spellQ (2, a, b, 0) = Lib.itoa a ++ [64] ++ Lib.itoa b := rfl
    rw [e]
    unfold parse0
    rw [if_pos (by rw [List.append_assoc]; exact pre_dig (itoa_digs ha.1) (itoa_ne ha.1))]
    show (numC [64] _).bind _ = _
    rw [numC_spell ha.1 ha.2 64 [] _ (by decide)]
    simp only [Option.bind_some]
    rw [numC_last hb.1 hb.2]; rfl
  · by_cases h0 : st = 0
    · subst h0
      have e : spellQ (0, a, b, c) = sVol ++ (Lib.itoa a ++ [44, 32, 99, 111, 108, 46, 32] ++ (Lib.itoa b ++ [44, 32, 108, 46, 32] ++ Lib.itoa c)) := rfl
      rw [e]
      unfold parse0
      rw [if_neg (by rw [(pre_vol _).1]; decide), (pre_vol _).2]
      have hcol : Lib.contains (sVol ++ (Lib.itoa a ++ [44, 32, 99, 111, 108, 46, 32] ++ (Lib.itoa b ++ [44, 32, 108, 46, 32] ++ Lib.itoa c))) [99, 111, 108, 46, 32] = true := by
        have := has_col (sVol ++ (Lib.itoa a ++ [44, 32])) (Lib.itoa b ++ [44, 32, 108, 46, 32] ++ Lib.itoa c)
        rw [show sVol ++ (Lib.itoa a ++ [44, 32, 99, 111, 108, 46, 32] ++ (Lib.itoa b ++ [44, 32, 108, 46, 32] ++ Lib.itoa c)) = sVol ++ (Lib.itoa a ++ [44, 32]) ++ sCol0 ++ (Lib.itoa b ++ [44, 32, 108, 46, 32] ++ Lib.itoa c) by simp [sCol0]]
        exact this
      rw [if_pos hcol]
      unfold three
      show (numC [44, 32, 99, 111, 108, 46, 32] _).bind _ = _
      rw [numC_spell ha.1 ha.2 44 _ _ (by decide)]
      simp only [Option.bind_some]
      show (numC [44, 32, 108, 46, 32] _).bind _ = _
      rw [numC_spell hb.1 hb.2 44 _ _ (by decide)]
      simp only [Option.bind_some]
      rw [numC_last hc.1 hc.2]; rfl
    · obtain rfl : st = 1 := by omega
      have e : spellQ (1, a, b, c) = sVol ++ (Lib.itoa a ++ [44, 32] ++ (Lib.itoa b ++ [44, 32, 112, 97, 114, 46, 32] ++ Lib.itoa c)) := rfl
      rw [e]
      unfold parse0
      rw [if_neg (by rw [(pre_vol _).1]; decide), (pre_vol _).2]
      have hcol : Lib.contains (sVol ++ (Lib.itoa a ++ [44, 32] ++ (Lib.itoa b ++ [44, 32, 112, 97, 114, 46, 32] ++ Lib.itoa c))) [99, 111, 108, 46, 32] = false := by
        refine no_col _ ?_
        simp only [List.mem_append, not_or]
        exact ⟨by decide, ⟨not_mem_itoa ha.1 (by decide), by decide⟩, ⟨not_mem_itoa hb.1 (by decide), by decide⟩, not_mem_itoa hc.1 (by decide)⟩
      rw [if_neg (by rw [hcol]; decide)]
      unfold three
      show (numC [44, 32] _).bind _ = _
      rw [numC_spell ha.1 ha.2 44 _ _ (by decide)]
      simp only [Option.bind_some]
      show (numC [44, 32, 112, 97, 114, 46, 32] _).bind _ = _
      rw [numC_spell hb.1 hb.2 44 _ _ (by decide)]
      simp only [Option.bind_some]
      rw [numC_last hc.1 hc.2]; rfl
theorem three_some {st : Int} {e1 e2 r : List UInt8} {q : Int × Int × Int × Int} (h1 : e1 ≠ []) (h2 : e2 ≠ []) (h : three st e1 e2 r = some q) : q.1 = st ∧ r = Lib.itoa q.2.1 ++ e1 ++ (Lib.itoa q.2.2.1 ++ e2 ++ Lib.itoa q.2.2.2) := by
  unfold three at h
  obtain ⟨p, hp, h⟩ := Option.bind_eq_some_iff.1 h
  obtain ⟨p2, hp2, h⟩ := Option.bind_eq_some_iff.1 h
  obtain ⟨p3, hp3, rfl⟩ := Option.map_eq_some_iff.1 h
  have a1 := (numC_some h1 hp).1
  have a2 := (numC_some h2 hp2).1
  have a3 := (numC_some0 hp3).1
  exact ⟨rfl, by rw [a1, a2, a3]⟩
theorem parse_some {c : List UInt8} {q : Int × Int × Int × Int} (h : parseC c = some q) : c = spellQ q ∧ okQ q := by
  have hin := parseC_in h
  unfold parseC at h
  obtain ⟨p, hp, h⟩ := Option.bind_eq_some_iff.1 h
  obtain rfl : p = q := by
    split at h
    · cases h
    · exact Option.some.inj h
  clear h
  unfold parse0 at hp
  split at hp
  · obtain ⟨p1, hp1, hp⟩ := Option.bind_eq_some_iff.1 hp
    obtain ⟨p2, hp2, rfl⟩ := Option.map_eq_some_iff.1 hp
    have a1 := (numC_some (by decide) hp1).1
    have a2 := (numC_some0 hp2).1
    refine ⟨?_, .inr (.inr ⟨rfl, rfl⟩), hin.2⟩
    rw [a1, a2]; rfl
  · rename_i hpre
    have hpre : Lib.hasPrefix c bVol.data.toList = true := by simpa using hpre
    have hc : c = sVol ++ Lib.trimPrefix c bVol.data.toList := by
      unfold Lib.trimPrefix
      rw [if_pos hpre]
      unfold Lib.hasPrefix at hpre
      rw [List.isPrefixOf_iff_prefix] at hpre
      obtain ⟨t, rfl⟩ := hpre
      rw [List.drop_left' rfl]; rfl
    split at hp
    · obtain ⟨e, hr⟩ := three_some (by decide) (by decide) hp
      refine ⟨?_, .inl e, hin.2⟩
      obtain ⟨st, a, b, d⟩ := p
      simp only at e
      subst e
      rw [hc, hr]; rfl
    · obtain ⟨e, hr⟩ := three_some (by decide) (by decide) hp
      refine ⟨?_, .inr (.inl e), hin.2⟩
      obtain ⟨st, a, b, d⟩ := p
      simp only at e
      subst e
      rw [hc, hr]; rfl
theorem spellQ_inj {q q' : Int × Int × Int × Int} (h : okQ q) (h' : okQ q') (e : spellQ q = spellQ q') : q = q' := by
  have h1 := parse_spell h
  rw [e, parse_spell h'] at h1
  exact (Option.some.inj h1).symm
end Go.Proofs.YtjkmdpejcgepkaaGreatDoor
/- Plain laws of the print: its places follow each other; what is cited is resolved. -/
namespace Go.Proofs.YtjkmdpejcgepkaaGreatDoor
open Go.RowKit
def startOf (ht : Int) (p : Pr) : Int := (p.column - 1) * ht + (p.line - 1)
theorem start_prOf (ht wd col day : Int) (s : Int × Int) (e : Entry) : startOf ht (prOf ht wd col day s e) = (col - 1) * ht + s.1 := by
  show (col + s.1 / ht - 1) * ht + (s.1 % ht + 1 - 1) = _
  have h := Int.emod_add_mul_ediv s.1 ht
  have e1 : (col + s.1 / ht - 1) * ht = (col - 1) * ht + ht * (s.1 / ht) := by
    rw [show col + s.1 / ht - 1 = (col - 1) + s.1 / ht by omega, Int.add_mul, Int.mul_comm (s.1 / ht)]
  omega
/-- one place stands before another -/
def ltP (ht : Int) (p q : Pr) : Prop := startOf ht p + p.lines ≤ startOf ht q ∧ (p.day < q.day ∨ p.day = q.day ∧ p.number < q.number)
theorem lines_nonneg {wd : Int} (h : 1 ≤ wd) (t : ByteArray) : 0 ≤ linesOf wd t := by
  unfold linesOf
  exact Int.ediv_nonneg (by omega) (by omega)
theorem rowEnd_cons (wd : Int) (s : Int × Int) (e : Entry) (r : List Entry) : rowEnd wd s (e :: r) = rowEnd wd (if e.gone then s else (s.1 + linesOf wd e.text, s.2 + 1)) r := rfl
theorem rowPr_spec {ht wd col day : Int} (hw : 1 ≤ wd) (r : List Entry) (s : Int × Int) :
    (rowPr ht wd col day s r).Pairwise (ltP ht) ∧ s.1 ≤ (rowEnd wd s r).1 ∧ ∀ p ∈ rowPr ht wd col day s r, (col - 1) * ht + s.1 ≤ startOf ht p ∧ startOf ht p + p.lines ≤ (col - 1) * ht + (rowEnd wd s r).1 ∧ p.day = day ∧ s.2 < p.number := by
  induction r generalizing s with
  | nil => exact ⟨List.Pairwise.nil, Int.le_refl _, fun p hp => by simp [rowPr] at hp⟩
  | cons e r ih =>
    rw [rowPr, rowEnd_cons]
    cases hg : e.gone
    · simp only [Bool.false_eq_true, if_false]
      obtain ⟨i1, i2, i3⟩ := ih (s.1 + linesOf wd e.text, s.2 + 1)
      have hl := lines_nonneg hw e.text
      have hst := start_prOf ht wd col day s e
      simp only at i2 i3
      refine ⟨List.pairwise_cons.2 ⟨fun q hq => ?_, i1⟩, by omega, fun p hp => ?_⟩
      · obtain ⟨j1, j2, j3, j4⟩ := i3 q hq
        refine ⟨?_, .inr ⟨j3.symm, j4⟩⟩
        rw [hst]
        show (col - 1) * ht + s.1 + linesOf wd e.text ≤ _
        omega
      · rcases List.mem_cons.1 hp with rfl | hp
        · rw [hst]
          refine ⟨Int.le_refl _, ?_, rfl, ?_⟩
          · show (col - 1) * ht + s.1 + linesOf wd e.text ≤ _; omega
          · show s.2 < s.2 + 1; omega
        · obtain ⟨j1, j2, j3, j4⟩ := i3 p hp
          exact ⟨by omega, j2, j3, by omega⟩
    · simp only [if_true]
      exact ih s
theorem ceil_ge {e ht : Int} (h : 1 ≤ ht) : e ≤ (e + ht - 1) / ht * ht := by
  have h1 := Int.emod_add_mul_ediv (e + ht - 1) ht
  have h2 := Int.emod_lt_of_pos (e + ht - 1) (show 0 < ht by omega)
  rw [Int.mul_comm ((e + ht - 1) / ht)]
  omega
theorem colEnd_succ {ht wd : Int} (h1 : 1 ≤ ht) (hw : 1 ≤ wd) (rows : List (List Entry)) (i : Nat) (hi : i < rows.length) :
    (colEnd ht wd (rows.take i) - 1) * ht + (rowEnd wd (0, 0) rows[i]).1 ≤ (colEnd ht wd (rows.take (i + 1)) - 1) * ht ∧ colEnd ht wd (rows.take i) ≤ colEnd ht wd (rows.take (i + 1)) := by
  rw [List.take_succ_eq_append_getElem hi, colEnd_snoc]
  have hc := ceil_ge (e := (rowEnd wd (0, 0) rows[i]).1) h1
  have h0 : 0 ≤ (rowEnd wd (0, 0) rows[i]).1 := (rowPr_spec (ht := ht) (col := 0) (day := 0) hw rows[i] (0, 0)).2.1
  have h2 : 0 ≤ ((rowEnd wd (0, 0) rows[i]).1 + ht - 1) / ht := Int.ediv_nonneg (by omega) (by omega)
  refine ⟨?_, by omega⟩
  generalize ((rowEnd wd (0, 0) rows[i]).1 + ht - 1) / ht = q at *
  rw [show colEnd ht wd (rows.take i) + q - 1 = (colEnd ht wd (rows.take i) - 1) + q by omega, Int.add_mul]
  omega
theorem colEnd_mono {ht wd : Int} (h1 : 1 ≤ ht) (hw : 1 ≤ wd) (rows : List (List Entry)) (i k : Nat) (h : i + k ≤ rows.length) : colEnd ht wd (rows.take i) ≤ colEnd ht wd (rows.take (i + k)) := by
  induction k with
  | zero => exact Int.le_refl _
  | succ k ih => exact Int.le_trans (ih (by omega)) (colEnd_succ h1 hw rows (i + k) (by omega)).2
theorem printL_pairs {ht wd : Int} (h1 : 1 ≤ ht) (hw : 1 ≤ wd) (days : List Int) (rows : List (List Entry)) (hd : ∀ i j, i < j → j < rows.length → days.getD i 0 < days.getD j 0) : (printL ht wd days rows).Pairwise (ltP ht) := by
  unfold printL
  rw [List.pairwise_flatMap]
  refine ⟨fun i _ => (rowPr_spec hw _ _).1, ?_⟩
  refine List.Pairwise.imp_of_mem ?_ List.pairwise_lt_range
  intro i j hi hj hij p hp q hq
  have hj' : j < rows.length := by simpa using hj
  have hi' : i < rows.length := by omega
  have ei : rows.getD i [] = rows[i] := by simp [List.getD_eq_getElem?_getD, hi']
  have ej : rows.getD j [] = rows[j] := by simp [List.getD_eq_getElem?_getD, hj']
  rw [ei] at hp
  rw [ej] at hq
  obtain ⟨-, -, a3⟩ := rowPr_spec (ht := ht) (col := colEnd ht wd (rows.take i)) (day := days.getD i 0) hw rows[i] (0, 0)
  obtain ⟨-, -, b3⟩ := rowPr_spec (ht := ht) (col := colEnd ht wd (rows.take j)) (day := days.getD j 0) hw rows[j] (0, 0)
  obtain ⟨-, p2, p3, -⟩ := a3 p hp
  obtain ⟨q1, -, q3, -⟩ := b3 q hq
  have c1 := (colEnd_succ h1 hw rows i hi').1
  have c2 := colEnd_mono h1 hw rows (i + 1) (j - (i + 1)) (by omega)
  rw [show i + 1 + (j - (i + 1)) = j by omega] at c2
  have c3 : (colEnd ht wd (rows.take (i + 1)) - 1) * ht ≤ (colEnd ht wd (rows.take j) - 1) * ht := Int.mul_le_mul_of_nonneg_right (by omega) (by omega)
  simp only at q1
  refine ⟨by omega, .inl ?_⟩
  rw [p3, q3]
  exact hd i j hij hj'
theorem days_lt {x : Vol} (h : x.valid = true) (i j : Nat) (hij : i < j) (hj : j < x.parts.length) : (x.parts.map (·.day)).getD i 0 < (x.parts.map (·.day)).getD j 0 := by
  have key : ∀ k (hk : i + 1 + k < x.parts.length), x.parts[i].day < x.parts[i + 1 + k].day := by
    intro k
    induction k with
    | zero => intro hk; exact (valid_days h (i + 1) hk).2.2.2 i rfl
    | succ k ih =>
      intro hk
      have h2 := ih (by omega)
      have h3 := (valid_days h (i + 1 + (k + 1)) hk).2.2.2 (i + 1 + k) rfl
      omega
  have h2 := key (j - (i + 1)) (by omega)
  have e : i + 1 + (j - (i + 1)) = j := by omega
  simp only [e] at h2
  simpa [List.getD_eq_getElem?_getD, hj, show i < x.parts.length by omega] using h2
theorem printV_pairs {x : Vol} {er : List Err} (h : checkE x er = 0) : (printV x er).Pairwise (ltP x.height) := by
  have hz := check_sizes h
  unfold printV
  refine printL_pairs hz.1 (by omega) _ _ fun i j hij hj => ?_
  rw [afterR_length] at hj
  exact days_lt (checkVol_valid (checkE_ok h).1) i j hij hj
theorem StepTo.len {x : Err} {F G : List Entry} (h : StepTo x F G) : G.length ≤ F.length + 1 := by
  rcases h with ⟨-, rfl⟩ | ⟨A, e, B, rfl, -, -, rfl⟩
  · omega
  · by_cases k : x.kind = 0 ∨ x.kind = 1
    · rw [if_pos k]; simp
    · rw [if_neg k]; simp; omega
theorem fold_len (l : List Err) (rows : List (List Entry)) : (l.foldl stepE rows).flatten.length ≤ rows.flatten.length + l.length := by
  induction l generalizing rows with
  | nil => simp
  | cons x l ih =>
    have h1 := ih (stepE rows x)
    have h2 := (stepTo rows x).len
    rw [List.foldl_cons, List.length_cons]
    omega
theorem row_le (rows : List (List Entry)) {r : List Entry} (h : r ∈ rows) : r.length ≤ rows.flatten.length := by
  obtain ⟨A, B, rfl⟩ := List.append_of_mem h
  simp
  omega
theorem checkVol_few {x : Vol} (h : checkVol x = 0) : x.parts.length ≤ 6 ∧ x.paras.length ≤ 30 := by
  unfold checkVol at h
  split at h
  · simp at h
  · omega
theorem after_len {x : Vol} {er : List Err} (h : checkE x er = 0) (d : Int) : (afterR x er d).flatten.length ≤ 50 := by
  obtain ⟨h0, h1, -⟩ := checkE_ok h
  have h2 := fold_len (issuedL er d) (rows0 x.parts)
  have h3 : (issuedL er d).length ≤ er.length := by
    unfold issuedL
    have := (List.takeWhile_prefix (fun x : Err => !(decide (d < x.day))) (l := sortE er)).length_le
    rw [(sortE_spec er).1.length_eq] at this
    exact this
  have h4 : (rows0 x.parts).flatten.length = x.paras.length := by rw [rows0_flat]; simp [Vol.paras]
  have h5 := (checkVol_few h0).2
  unfold afterR
  omega
theorem printV_col {x : Vol} {er : List Err} (h : checkE x er = 0) {p : Pr} (hp : p ∈ printV x er) : p.column ≤ 999999 := by
  have hz := check_sizes h
  have hrow : ∀ r ∈ afterR x er x.bound, r.length ≤ 50 := fun r hr => Nat.le_trans (row_le _ hr) (after_len h x.bound)
  have htx : ∀ e ∈ (afterR x er x.bound).flatten, e.text.size ≤ 200 := fun e he => (textB_size (after_texts h x.bound e he)).2
  have hlen := afterR_length x er x.bound
  have hpl := (checkVol_few (checkE_ok h).1).1
  unfold printV at hp
  obtain ⟨i, hi, hp⟩ := printL_mem hp
  have hrl : (afterR x er x.bound)[i].length ≤ 50 := hrow _ (List.getElem_mem hi)
  obtain ⟨-, q2, -⟩ := rowPr_mem (m := 200) (by omega) (by omega) (by omega) _ (fun e he => htx e (List.mem_flatten.2 ⟨_, List.getElem_mem hi, he⟩)) (0, 0) ⟨by simp, by simp⟩ p hp
  have hc := colEnd_le (m := 200) (n := 50) (wd := x.width) (ht := x.height) (by omega) (by omega) (by omega) (by omega) ((afterR x er x.bound).take i) (fun r hr => textsLe_of htx r (List.mem_of_mem_take hr)) (fun r hr => hrow r (List.mem_of_mem_take hr))
  have hl1 : ((afterR x er x.bound).take i).length ≤ 6 := by rw [List.length_take]; omega
  have hm1 : (((afterR x er x.bound).take i).length : Int) * (((50 : Nat) : Int) * (((200 : Nat) : Int) + 1000) + 1000) ≤ 6 * (((50 : Nat) : Int) * (((200 : Nat) : Int) + 1000) + 1000) := Int.mul_le_mul_of_nonneg_right (by omega) (by omega)
  have hm2 : ((afterR x er x.bound)[i].length : Int) * (((200 : Nat) : Int) + 1000) ≤ 50 * (((200 : Nat) : Int) + 1000) := Int.mul_le_mul_of_nonneg_right (by omega) (by omega)
  simp only at q2
  omega
theorem line_start (ht b c : Int) (p : Pr) : lineAt ht b c p = (b - 1) * ht + (c - 1) - startOf ht p := by
  unfold lineAt startOf
  have e : (b - p.column) * ht = (b - 1) * ht - (p.column - 1) * ht := by
    rw [← Int.sub_mul]; congr 1; omega
  omega
theorem pairs_at {ht : Int} {pl : List Pr} (h : pl.Pairwise (ltP ht)) {j k : Nat} (hk : k < pl.length) (hj : j < k) : ltP ht (pl[j]'(by omega)) pl[k] := List.pairwise_iff_getElem.1 h j k (by omega) hk hj
def qOf (n st : Int) (p : Pr) : Int × Int × Int × Int := if st = 0 then (0, n, p.column, p.line) else (1, n, p.day, p.number)
theorem cite_text (n st : Int) (p : Pr) : (citeP n st p).data.toList = spellQ (qOf n st p) := by
  unfold citeP qOf
  by_cases h : st = 0
  · rw [if_pos h, if_pos h]
    simp only [bytesOf, spell, iCol, List.flatMap_cons, List.flatMap_nil, Item.txt, List.append_nil]
    show _ = sVol ++ (Lib.itoa n ++ [44, 32, 99, 111, 108, 46, 32] ++ (Lib.itoa p.column ++ [44, 32, 108, 46, 32] ++ Lib.itoa p.line))
    simp [bVol, bCol, bL, sVol]
  · rw [if_neg h, if_neg h]
    simp only [bytesOf, spell, iNum, List.flatMap_cons, List.flatMap_nil, Item.txt, List.append_nil]
    show _ = sVol ++ (Lib.itoa n ++ [44, 32] ++ (Lib.itoa p.day ++ [44, 32, 112, 97, 114, 46, 32] ++ Lib.itoa p.number))
    simp [bVol, bSep, bPar, sVol]
theorem at_text (a to : Int) : (bytesOf (spell (iAt a to))).data.toList = spellQ (2, a, to, 0) := by
  simp only [bytesOf, spell, iAt, List.flatMap_cons, List.flatMap_nil, Item.txt, List.append_nil]
  show _ = Lib.itoa a ++ [64] ++ Lib.itoa to
  simp [bAt]
theorem qOf_ok {x : Vol} {er : List Err} (h : checkE x er = 0) (hs : x.small) (hl : er.length ≤ 1000) (st : Int) {p : Pr} (hp : p ∈ printV x er) : okQ (qOf x.number st p) := by
  have hz := check_sizes h
  have hm := printV_mem h hs hl hp
  have hc := printV_col h hp
  unfold qOf
  by_cases h0 : st = 0
  · rw [if_pos h0]
    exact ⟨.inl rfl, ⟨by simp only; omega, by simp only; omega⟩, ⟨by simp only; omega, by simp only; omega⟩, ⟨by simp only; omega, by simp only; omega⟩, fun hh => absurd rfl hh⟩
  · rw [if_neg h0]
    exact ⟨.inr (.inl rfl), ⟨by simp only; omega, by simp only; omega⟩, ⟨by simp only; omega, by simp only; omega⟩, ⟨by simp only; omega, by simp only; omega⟩, fun _ => day_in (by simp only; omega) (by simp only; omega)⟩
theorem hit_self {x : Vol} {er : List Err} (h : checkE x er = 0) (hs : x.small) (hl : er.length ≤ 1000) (st : Int) {p : Pr} (hp : p ∈ printV x er) :
    hit x.number x.height (qOf x.number st p).1 (qOf x.number st p).2.1 (qOf x.number st p).2.2.1 (qOf x.number st p).2.2.2 p = true := by
  have hm := printV_mem h hs hl hp
  have hln := lines_of h hp
  unfold qOf
  by_cases h0 : st = 0
  · rw [if_pos h0]
    unfold hit
    simp only [if_true]
    have e : lineAt x.height p.column p.line p = 0 := by rw [line_start]; unfold startOf; omega
    rw [e]
    unfold withinB
    simp; omega
  · rw [if_neg h0]
    unfold hit
    simp
theorem hit_other {x : Vol} {ht n st : Int} {p q : Pr} (h : ltP ht p q) : hit n ht (qOf x.number st q).1 (qOf x.number st q).2.1 (qOf x.number st q).2.2.1 (qOf x.number st q).2.2.2 p = false := by
  obtain ⟨h1, h2⟩ := h
  unfold qOf
  by_cases h0 : st = 0
  · rw [if_pos h0]
    unfold hit
    simp only [if_true]
    have e : p.lines ≤ lineAt ht q.column q.line p := by
      rw [line_start]; unfold startOf at h1 ⊢; omega
    have : withinB (lineAt ht q.column q.line p) 0 (p.lines - 1) = false := by unfold withinB; simp; omega
    rw [this]; simp
  · rw [if_neg h0]
    unfold hit
    have : (p.day == q.day && p.number == q.number) = false := by
      simp; omega
    simp only [show ¬ (1 : Int) = 0 by decide, if_false]
    rw [this]; rfl
theorem res_place {x : Vol} {er : List Err} (h : checkE x er = 0) (hs : x.small) (hl : er.length ≤ 1000) (st : Int) {p : Pr} (hp : p ∈ printV x er) :
    resolveE x er (spellQ (qOf x.number st p)) = (p.anchor, x.bound, 0) := by
  have hq := parse_spell (qOf_ok h hs hl st hp)
  unfold resolveE
  rw [if_neg (by rw [h]; decide), hq]
  simp only
  have hst : (qOf x.number st p).1 ≠ 2 := by
    unfold qOf
    split
    · exact (by decide : (0 : Int) ≠ 2)
    · exact (by decide : (1 : Int) ≠ 2)
  rw [if_neg hst]
  unfold resolveR
  obtain ⟨k, hk, rfl⟩ := List.mem_iff_getElem.1 hp
  rw [pfind_at (f := hit x.number x.height (qOf x.number st (printV x er)[k]).1 (qOf x.number st (printV x er)[k]).2.1 (qOf x.number st (printV x er)[k]).2.2.1 (qOf x.number st (printV x er)[k]).2.2.2) hk (hit_self h hs hl st hp)
    (fun j hj hjk => hit_other (x := x) (pairs_at (printV_pairs h) hk hjk))]
theorem StepTo.anchors {x : Err} {F G : List Entry} (h : StepTo x F G) (p : Int → Prop) (hx : ¬(x.kind = 0 ∨ x.kind = 1) → p x.new) (hF : ∀ a ∈ F.map (·.anchor), p a) : ∀ a ∈ G.map (·.anchor), p a := by
  rcases h.map with he | ⟨A, B, hA, hG, hk⟩
  · rw [he]; exact hF
  · intro a ha
    rw [hG] at ha
    rw [hA] at hF
    rcases List.mem_append.1 ha with ha | ha
    · exact hF a (List.mem_append_left _ ha)
    · rcases List.mem_cons.1 ha with rfl | ha
      · exact hx hk
      · exact hF a (List.mem_append_right _ ha)
theorem fold_anchors (l : List Err) (p : Int → Prop) (rows : List (List Entry)) (hx : ∀ x ∈ l, ¬(x.kind = 0 ∨ x.kind = 1) → p x.new) (hF : ∀ a ∈ rows.flatten.map (·.anchor), p a) : ∀ a ∈ (l.foldl stepE rows).flatten.map (·.anchor), p a := by
  induction l generalizing rows with
  | nil => exact hF
  | cons x l ih => exact ih (stepE rows x) (fun y hy => hx y (List.mem_cons_of_mem _ hy)) ((stepTo rows x).anchors p (hx x (List.mem_cons_self ..)) hF)
theorem after_anchors {x : Vol} {er : List Err} (h : checkE x er = 0) (d : Int) : ∀ e ∈ (afterR x er d).flatten, 1 ≤ e.anchor ∧ e.anchor ≤ 999 := by
  intro e he
  refine fold_anchors (issuedL er d) (fun a => 1 ≤ a ∧ a ≤ 999) (rows0 x.parts) (fun y hy hk => ok_new (List.all_eq_true.1 (checkE_ok h).2.2.1 y (issued_mem hy)) hk) ?_ e.anchor (List.mem_map_of_mem he)
  intro a ha
  rw [rows0_ancs] at ha
  obtain ⟨p, hp, rfl⟩ := List.mem_map.1 ha
  exact valid_paras (checkVol_valid (checkE_ok h).1) p hp
theorem find_anchor {x : Vol} {er : List Err} (h : checkE x er = 0) {a d : Int} (hd : dayB d = true) (hf : (findE x er a d).2.2 = 0) : 1 ≤ a ∧ a ≤ 999 := by
  unfold findE at hf
  rw [if_neg (by unfold readE; simp [h, hd]), findR_look] at hf
  cases hl : look (afterR x er d) a with
  | none => rw [hl] at hf; simp [lookF] at hf
  | some e =>
    obtain ⟨m1, rfl⟩ := mem_of_find (F := (afterR x er d).flatten) hl
    exact after_anchors h d e m1
theorem res_at {x : Vol} {er : List Err} (h : checkE x er = 0) {a d : Int} (h1 : 0 ≤ d) (h2 : d ≤ 99999) (hf : (findE x er a d).2.2 = 0) : resolveE x er (spellQ (2, a, d, 0)) = (a, d, 0) := by
  have ha := find_anchor h (day_in h1 h2) hf
  have hq := parse_spell (q := (2, a, d, 0)) ⟨.inr (.inr ⟨rfl, rfl⟩), ⟨by simp only; omega, by simp only; omega⟩, ⟨h1, by simp only; omega⟩, ⟨Int.le_refl _, by simp only; omega⟩, fun _ => day_in h1 h2⟩
  unfold resolveE
  rw [if_neg (by rw [h]; decide), hq]
  simp only [if_true]
  rw [if_neg (by rw [hf]; decide)]
theorem print_more {x : Vol} {er : List Err} {more : Err} (h1 : EOk x er) (hd : x.bound < more.day) : printV x (er ++ [more]) = printV x er := by
  unfold printV afterR
  rw [issued_more h1 _ hd]
theorem find_more {x : Vol} {er : List Err} {more : Err} (h0 : checkVol x = 0) (h1 : EOk x er) (h2 : EOk x (er ++ [more])) (a : Int) {d : Int} (hd : d < more.day) (hd1 : 0 ≤ d) (hd2 : d ≤ 99999) : findE x (er ++ [more]) a d = findE x er a d := by
  rw [find_look h0 h1 a hd1 hd2, find_look h0 h2 a hd1 hd2]
  unfold afterR
  rw [issued_more h1 d hd]
def dueOf (x : Vol) (s d : Int) : Int := if s = 2 then d else x.bound
/-- what is cited is resolved, with a later erratum as well -/
theorem links_law {x : Vol} {er : List Err} (h0 : checkVol x = 0) (h1 : EOk x er) (hs : x.small) (a s d : Int) (hs1 : 0 ≤ s) (hs2 : s ≤ 2) (hd1 : 0 ≤ d) (hd2 : d ≤ 99999) :
    (∃ c : ByteArray, citeE x er a s d = (c, 0) ∧ c.size ≤ 100000 ∧ resolveE x er c.data.toList = (a, dueOf x s d, 0) ∧ ∀ more, EOk x (er ++ [more]) → x.bound < more.day → dueOf x s d < more.day → resolveE x (er ++ [more]) c.data.toList = (a, dueOf x s d, 0)) ∨
    citeE x er a s d = (⟨#[]⟩, 7) := by
  have hck := check_of h0 h1
  have hl : er.length ≤ 1000 := by have := h1.few; omega
  have hday := day_in hd1 hd2
  unfold citeE
  rw [if_neg (by rw [hck]; decide), if_neg (by omega)]
  by_cases h2 : s = 2
  · rw [if_pos h2, if_neg (by rw [hday]; decide)]
    unfold dueOf
    rw [if_pos h2]
    by_cases hf : (findE x er a d).2.2 = 0
    · left
      have ha := find_anchor hck hday hf
      rw [if_neg (by rw [hf]; decide)]
      refine ⟨_, rfl, ?_, ?_, fun more hm _ hlt => ?_⟩
      · have := spell_len (iAt a d) (fun i hi => by
          simp only [iAt, List.mem_cons, List.not_mem_nil, or_false] at hi
          rcases hi with rfl | rfl | rfl
          · exact ⟨by omega, by omega⟩
          · show ByteArray.size _ ≤ _; decide
          · exact ⟨by omega, by omega⟩)
        have e : (bytesOf (spell (iAt a d))).size = (spell (iAt a d)).length := by simp [bytesOf, ByteArray.size]
        rw [e]
        have : (iAt a d).length = 3 := rfl
        omega
      · rw [at_text]; exact res_at hck hd1 hd2 hf
      · rw [at_text]; exact res_at (check_of h0 hm) hd1 hd2 (by rw [find_more h0 h1 hm a hlt hd1 hd2]; exact hf)
    · right
      rw [if_pos hf]
      rw [find_look h0 h1 a hd1 hd2] at hf ⊢
      cases hq : look (afterR x er d) a with
      | none => rfl
      | some e => rw [hq] at hf; exact absurd rfl hf
  · rw [if_neg h2]
    unfold dueOf
    rw [if_neg h2]
    unfold citeR
    cases hq : (printV x er).find? (fun p => p.anchor == a) with
    | none => exact .inr rfl
    | some p =>
      left
      have hp := List.mem_of_find?_eq_some hq
      have ha : p.anchor = a := by simpa using List.find?_some hq
      have hz := check_sizes hck
      have hm := printV_mem hck hs hl hp
      refine ⟨_, rfl, ?_, ?_, fun more hmore hlt _ => ?_⟩
      · unfold citeP
        have e : ∀ l : List Item, (bytesOf (spell l)).size = (spell l).length := fun l => by simp [bytesOf, ByteArray.size]
        rw [e]
        by_cases h0 : s = 0
        · rw [if_pos h0]
          have := spell_len (iCol x.number p) (fun i hi => by
            simp only [iCol, List.mem_cons, List.not_mem_nil, or_false] at hi
            rcases hi with rfl | rfl | rfl | rfl | rfl | rfl
            · show ByteArray.size _ ≤ _; decide
            · exact ⟨by omega, by omega⟩
            · show ByteArray.size _ ≤ _; decide
            · exact ⟨by omega, by omega⟩
            · show ByteArray.size _ ≤ _; decide
            · exact ⟨by omega, by omega⟩)
          have : (iCol x.number p).length = 6 := rfl
          omega
        · rw [if_neg h0]
          have := spell_len (iNum x.number p) (fun i hi => by
            simp only [iNum, List.mem_cons, List.not_mem_nil, or_false] at hi
            rcases hi with rfl | rfl | rfl | rfl | rfl | rfl
            · show ByteArray.size _ ≤ _; decide
            · exact ⟨by omega, by omega⟩
            · show ByteArray.size _ ≤ _; decide
            · exact ⟨by omega, by omega⟩
            · show ByteArray.size _ ≤ _; decide
            · exact ⟨by omega, by omega⟩)
          have : (iNum x.number p).length = 6 := rfl
          omega
      · rw [cite_text, res_place hck hs hl s hp, ha]
      · have hp2 : p ∈ printV x (er ++ [more]) := by rw [print_more h1 hlt]; exact hp
        rw [cite_text, res_place (check_of h0 hmore) hs (by have := hmore.few; omega) s hp2, ha]
end Go.Proofs.YtjkmdpejcgepkaaGreatDoor
