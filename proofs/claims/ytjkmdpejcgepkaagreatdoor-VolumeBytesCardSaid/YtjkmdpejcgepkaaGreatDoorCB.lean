/- after: what a volume says after a day. -/
import Derived.Test.YtjkmdpejcgepkaaGreatDoorB6
namespace Go.Proofs.YtjkmdpejcgepkaaGreatDoor
open Go.RowKit
attribute [local go_sem] Oper.semAt_some
/-- append at a step of a drawn region -/
theorem step_append_rd {P : Program} {ops : Array Oper} {o : Oper} {a : Act} {Q : Exit → Act → World → Prop} {Kk : Act → World → Prop} {Ee : Prop} {α : Type} (E : Enc α) {W : World} (base : Nat) (hgd : o.guard = none) (s x : Operand) (t e : TypeId) (z : Value) (bytes : Nat)
    (ho : o.op = .call { callee := .builtin .append, args := #[s, x], argTypes := #[t, t] })
    (ht : P.underlying t = some (.slice e)) (hinfo : (P.info? e).map (fun i => (i.zero, i.size, i.bytes)) = some (some z, E.k, bytes)) (hz : z.cells.size = E.k) (hb0 : 0 < bytes)
    (v sv : Value) (xs ys : List α) (hs : a.eval s = v) (hx : a.eval x = sv) (HO : Own E e W base v xs) (HR : Rd E.f E.k W sv ys) (hbase : base ≤ W.heap.size)
    (hl : (xs.length + ys.length) * bytes ≤ 140737488355328)
    (h : ∀ v1 w1, Own E e w1 base v1 (xs ++ ys) → W.grownBy w1 v.ownBlock → Below base W w1 → (v1.ownBlock = v.ownBlock ∨ v1.ownBlock = some W.heap.size) → Kk (a.put o.dst v1) w1) :
    if Region.wanted o (yielded ops a.tmps) = true then Oper.wp P o a W Kk Q else Ee := by
  have hw : Region.wanted o (yielded ops a.tmps) = true := by simp [Region.wanted, hgd]
  rw [if_pos hw]
  obtain ⟨v1, w1, hr, h1, h2, h3, h4⟩ := run_append_rd E base t e o.type z bytes ht hinfo hz hb0 v sv xs ys HO HR hbase hl
  unfold Oper.wp execOp
  simp only [ho, resolve, invoke, builtin, Sem.run_bind, Sem.run_pure, Result.andThen_ok, List.map_toArray, List.map_cons, List.map_nil, hs, hx, hr]
  exact h v1 w1 h1 h2 h3 h4
def row0 (p : Part) : List Entry := p.paras.map fun q => ⟨q.anchor, q.text, false⟩
def rows0 (ps : List Part) : List (List Entry) := ps.map row0
/-- what an erratum does -/
def stepE (rows : List (List Entry)) (x : Err) : List (List Entry) :=
  match locate x.anchor rows with
  | none => rows
  | some (i, j) =>
    if x.kind = 0 then (if ((rows.getD i []).getD j default).gone then rows else rows.set i ((rows.getD i []).set j { ((rows.getD i []).getD j default) with text := x.text }))
    else if x.kind = 1 then rows.set i ((rows.getD i []).set j { ((rows.getD i []).getD j default) with gone := true })
    else rows.set i (insAt (rows.getD i []) (j + 1) ⟨x.new, x.text, false⟩)
def afterR (x : Vol) (errata : List Err) (to : Int) : List (List Entry) := (issuedL errata to).foldl stepE (rows0 x.parts)
theorem Own.ne_block {α : Type} {E : Enc α} {e t : TypeId} {w : World} {base b : Nat} {v : Value} {xs : List α} {cs : Array Value} {fr : Nat × Nat} (h : Own E e w base v xs) (hb : w.heap[b]? = some (.cells cs t fr)) (ht : t ≠ e) : v.ownBlock ≠ some b := by
  rcases id h.2 with ⟨e0, _⟩ | ⟨g', _, cu, e0, _, hh, _⟩
  · rw [e0]; simp [Value.ownBlock]
  · rw [e0]
    intro e1
    cases e1
    rw [hh] at hb; injection hb with hb; injection hb with _ hb; exact ht hb.symm
theorem rd_single {W : World} {b : Nat} {t : TypeId} {fr : Nat × Nat} (s : Sl) (h : W.heap[b]? = some (.cells #[s.val] t fr)) : Rd ES.f ES.k W (.slice (some ⟨b, 0, none⟩) 1 1) [s] := by
  refine ⟨_, 1, rfl, by simp, by simp, fun _ => ⟨_, _, rfl, (Array.getElem?_eq_some_iff.1 h).1, fun j hj i u hu => ?_⟩⟩
  obtain rfl : j = 0 := by simpa using hj
  simp only [List.getElem_cons_zero] at hu
  have hi : i = 0 := by
    have h2 : i < (ES.f s).length := (List.getElem?_eq_some_iff.1 hu).1
    rw [ES.len] at h2; exact Nat.lt_one_iff.1 h2
  subst hi
  cases hu
  simp [World.cell?, h]
theorem IsEd.cell5 {w : World} {base eb : Nat} {rows : List (List Entry)} (h : IsEd w base eb rows) : ∃ A c ss, w.cell? ⟨eb, 5, none⟩ = some (.slice A rows.length c) ∧ w.frozen? ⟨eb, 5, none⟩ = false ∧ Own ES 93 w base (.slice A rows.length c) ss ∧ ss.length = rows.length ∧
    (∀ (W w1 : World), Below w.heap.size w W → W.grownBy w1 (Value.slice A rows.length c).ownBlock → w1.cell? ⟨eb, 5, none⟩ = some (.slice A rows.length c) ∧ w1.frozen? ⟨eb, 5, none⟩ = false) ∧
    (∀ (W w1 : World) (v1 : Value) (s : Sl) (r : List Entry), Below w.heap.size w W → W.grownBy w1 (Value.slice A rows.length c).ownBlock → Own ES 93 w1 base v1 (ss ++ [s]) → Own EN 95 w1 base s.val r → (∀ b, s.val.ownBlock = some b → w.heap.size ≤ b) → IsEd (w1.setCell ⟨eb, 5, none⟩ v1) base eb (rows ++ [r])) := by
  obtain ⟨cs, ov, ss, h0, h1, h2, h3, h4, h5, h6, h7⟩ := h
  obtain ⟨A, c, rfl, -⟩ := id h4.rd
  rw [h5] at h3 h4
  have hlt := (Array.getElem?_eq_some_iff.1 h1).1
  refine ⟨A, c, ss, by simp [World.cell?, h1, h3], by simp [World.frozen?, h1], h4, h5, ?_, ?_⟩
  · intro W w1 hB hg
    have hoe : (Value.slice A rows.length c).ownBlock ≠ some eb := h4.ne_block h1 (by decide)
    have h1' : w1.heap[eb]? = some (.cells cs 90 (0, 0)) := by
      rw [hg.block eb (Nat.lt_of_lt_of_le hlt hB.size) (Ne.symm hoe), hB.block eb hlt]; exact h1
    exact ⟨by simp [World.cell?, h1', h3], by simp [World.frozen?, h1']⟩
  intro W w1 v1 s r hB hg hO1 hOr hfr
  have hoe : ∀ b, (Value.slice A rows.length c).ownBlock = some b → b ≠ eb := fun b hb => by
    rcases id h4.2 with ⟨e0, _⟩ | ⟨g', _, cu, e0, _, hh, _⟩
    · rw [e0] at hb; cases hb
    · rw [e0] at hb; cases hb
      rintro rfl; rw [hh] at h1; injection h1 with h1; injection h1 with _ h1; revert h1; decide
  have h1' : w1.heap[eb]? = some (.cells cs 90 (0, 0)) := by
    rw [hg.block eb (Nat.lt_of_lt_of_le hlt hB.size) (fun e => hoe eb e.symm rfl), hB.block eb hlt]; exact h1
  have hg2 : w1.grownBy (w1.setCell ⟨eb, 5, none⟩ v1) (some eb) := Lib.grownBy_setCell w1 eb 5 v1
  have hs2 : (w1.setCell ⟨eb, 5, none⟩ v1).heap[eb]? = some (.cells (cs.setIfInBounds 5 v1) 90 (0, 0)) := by simp [World.setCell, Array.getElem?_modify, h1']
  have hnE : ∀ {α : Type} (E : Enc α) (t : TypeId) (w' : World) (v : Value) (xs : List α), Own E t w' base v xs → t ≠ 90 → w'.heap[eb]? = some (.cells cs 90 (0, 0)) → v.ownBlock = none ∨ v.ownBlock ≠ some eb := fun E t w' v xs hO ht he => by
    rcases id hO.2 with ⟨e0, _⟩ | ⟨g', _, cu, e0, _, hh, _⟩
    · rw [e0]; exact .inl rfl
    · rw [e0]; right
      intro e; cases e
      rw [hh] at he; injection he with he; injection he with _ he; exact ht he
  refine ⟨_, v1, ss ++ [s], h0, hs2, by simp [h2], by rw [Array.getElem?_setIfInBounds_self_of_lt (by omega)], hO1.grown hg2 (hnE ES _ _ _ _ hO1 (by decide) h1'), by simp [h5], ?_, ?_⟩
  · intro j t r' hs hr
    by_cases hj : j < ss.length
    · rw [List.getElem?_append_left hj] at hs
      rw [List.getElem?_append_left (by omega)] at hr
      have q := h6 j t r' hs hr
      have q1 := q.below hB
      have q2 := q1.grown hg (by
        cases hb : t.val.ownBlock with
        | none => exact .inl rfl
        | some b =>
          right
          intro e
          have hx : ∃ cu, w.heap[b]? = some (.cells cu 95 (0, 0)) := by
            rcases id q.2 with ⟨e0, _⟩ | ⟨g', _, cu, e0, _, hh, _⟩
            · rw [e0] at hb; cases hb
            · rw [e0] at hb; cases hb; exact ⟨cu, hh⟩
          have hy : ∃ cu, w.heap[b]? = some (.cells cu 93 (0, 0)) := by
            rcases id h4.2 with ⟨e0, _⟩ | ⟨g', _, cu, e0, _, hh, _⟩
            · rw [e0] at e; cases e
            · rw [e0] at e; cases e; exact ⟨cu, hh⟩
          obtain ⟨c1, hx⟩ := hx; obtain ⟨c2, hy⟩ := hy
          rw [hx] at hy; injection hy with hy; injection hy with _ hy; revert hy; decide)
      exact q2.grown hg2 (hnE EN _ _ _ _ q2 (by decide) h1')
    · have hj2 : j = ss.length := by
        have := (List.getElem?_eq_some_iff.1 hs).1
        simp at this; omega
      subst hj2
      rw [List.getElem?_append_right (Nat.le_refl _), Nat.sub_self] at hs
      rw [List.getElem?_append_right (by omega), h5, Nat.sub_self] at hr
      cases hs; cases hr
      exact hOr.grown hg2 (hnE EN _ _ _ _ hOr (by decide) h1')
  · have hold : ∀ (p : Nat) (t : Sl) (b : Nat), ss[p]? = some t → t.val.ownBlock = some b → b < w.heap.size := fun p t b ht hb =>
      ((h6 p t (rows[p]'(by have := (List.getElem?_eq_some_iff.1 ht).1; omega)) ht (List.getElem?_eq_getElem _)).lt b hb).2
    have hcase : ∀ (p : Nat) (t : Sl), (ss ++ [s])[p]? = some t → ss[p]? = some t ∨ (p = ss.length ∧ t = s) := fun p t ht => by
      by_cases hp : p < ss.length
      · rw [List.getElem?_append_left hp] at ht; exact .inl ht
      · have hp2 : p = ss.length := by
          have := (List.getElem?_eq_some_iff.1 ht).1
          simp at this; omega
        subst hp2
        rw [List.getElem?_append_right (Nat.le_refl _), Nat.sub_self] at ht
        cases ht; exact .inr ⟨rfl, rfl⟩
    intro p q t u b hpq ht hu hb hb2
    rcases hcase p t ht with ht' | ⟨rfl, rfl⟩ <;> rcases hcase q u hu with hu' | ⟨rfl, rfl⟩
    · exact h7 p q t u b hpq ht' hu' hb hb2
    · have := hold p t b ht' hb; have := hfr b hb2; omega
    · have := hold q u b hu' hb2; have := hfr b hb; omega
    · exact hpq rfl
theorem Own.off {α : Type} {E : Enc α} {e : TypeId} {w w' : World} {base : Nat} {v : Value} {xs : List α} (h : Own E e w base v xs) {row : Option Nat} (hg : w.grownBy w' row) (hr : ∀ r, row = some r → ∃ o : Obj, w.heap[r]? = some o ∧ o.isCells = false) : Own E e w' base v xs := by
  refine h.grown hg ?_
  rcases id h.2 with ⟨e0, _⟩ | ⟨g', _, cu, e0, _, hh, _⟩
  · rw [e0]; exact .inl rfl
  · right
    rw [e0]
    intro e1
    obtain ⟨o, ho, hc⟩ := hr g' e1.symm
    rw [hh] at ho; cases ho; cases hc
theorem IsEd.off {w w' : World} {base eb : Nat} {rows : List (List Entry)} (h : IsEd w base eb rows) {row : Option Nat} (hg : w.grownBy w' row) (hr : ∀ r, row = some r → ∃ o : Obj, w.heap[r]? = some o ∧ o.isCells = false) : IsEd w' base eb rows := by
  obtain ⟨cs, ov, ss, h0, h1, h2, h3, h4, h5, h6, h7⟩ := h
  refine ⟨cs, ov, ss, h0, ?_, h2, h3, h4.off hg hr, h5, fun j s r q1 q2 => (h6 j s r q1 q2).off hg hr, h7⟩
  rw [hg.block eb (Array.getElem?_eq_some_iff.1 h1).1 (fun e => by
    obtain ⟨o, ho, hc⟩ := hr eb e.symm
    rw [h1] at ho; cases ho; cases hc)]
  exact h1
theorem isEd_own {β : Type} (B base eb : Nat) (f : β → List (List Entry)) : OwnFrom B (fun s W => IsEd W base eb (f s)) := fun _ _ _ _ hs hg hr => hs.off hg (fun r e => (hr r e).2)
def Small (n : Nat) (rows : List (List Entry)) : Prop := rows.length ≤ 100 ∧ ∀ r ∈ rows, r.length ≤ n
theorem small_set {n : Nat} {rows : List (List Entry)} (h : Small n rows) (i : Nat) (r : List Entry) (hr : r.length ≤ n + 1) : Small (n + 1) (rows.set i r) := by
  refine ⟨by rw [List.length_set]; exact h.1, fun q hq => ?_⟩
  rcases List.mem_or_eq_of_mem_set hq with hq | rfl
  · exact Nat.le_succ_of_le (h.2 q hq)
  · exact hr
theorem small_getD {n : Nat} {rows : List (List Entry)} (h : Small n rows) (i : Nat) : (rows.getD i []).length ≤ n := by
  rw [List.getD_eq_getElem?_getD]
  cases hi : rows[i]? with
  | none => simp
  | some r => exact h.2 r (List.mem_of_getElem? hi)
theorem small_step {n : Nat} {rows : List (List Entry)} (h : Small n rows) (x : Err) : Small (n + 1) (stepE rows x) := by
  have h0 : Small (n + 1) rows := ⟨h.1, fun r hr => Nat.le_succ_of_le (h.2 r hr)⟩
  unfold stepE
  split
  · exact h0
  · rename_i i j _
    have hg := small_getD h i
    split
    · split
      · exact h0
      · exact small_set h i _ (by rw [List.length_set]; omega)
    · split
      · exact small_set h i _ (by rw [List.length_set]; omega)
      · exact small_set h i _ (by rw [insAt_length]; omega)
theorem small_fold {n : Nat} {rows : List (List Entry)} (h : Small n rows) (l : List Err) : Small (n + l.length) (l.foldl stepE rows) := by
  induction l generalizing n rows with
  | nil => exact h
  | cons x l ih =>
    rw [List.foldl_cons, List.length_cons, show n + (l.length + 1) = (n + 1) + l.length by omega]
    exact ih (small_step h x)
theorem small_rows0 {ps : List Part} (h : ps.length ≤ 100 ∧ ∀ p ∈ ps, p.paras.length ≤ 1000) : Small 1000 (rows0 ps) := by
  refine ⟨by simp [rows0, h.1], fun r hr => ?_⟩
  obtain ⟨p, hp, rfl⟩ := List.mem_map.1 hr
  simp [row0]; exact h.2 p hp
theorem locate_spec {a : Int} {rows : List (List Entry)} {i j : Nat} (h : locate a rows = some (i, j)) : ∃ r e, rows[i]? = some r ∧ r[j]? = some e := by
  induction rows generalizing i with
  | nil => simp [locate] at h
  | cons r rs ih =>
    rw [locate] at h
    cases hr : r.findIdx? (fun e => e.anchor == a) with
    | some k =>
      rw [hr] at h
      simp only [Option.some.injEq, Prod.mk.injEq] at h
      obtain ⟨rfl, rfl⟩ := h
      obtain ⟨hk, _⟩ := List.findIdx?_eq_some_iff_getElem.1 hr
      exact ⟨r, r[k], rfl, List.getElem?_eq_getElem hk⟩
    | none =>
      rw [hr] at h
      cases hl : locate a rs with
      | none => rw [hl] at h; cases h
      | some p =>
        rw [hl] at h
        simp only [Option.map_some, Option.some.injEq, Prod.mk.injEq] at h
        obtain ⟨rfl, rfl⟩ := h
        exact ih hl
theorem Tryz.infoEntries : (Tryz.prog.info? 93).map (fun i => (i.zero, i.size, i.bytes)) = some (some (.slice none 0 0), 1, 24) := by kernel_rfl
def okKind (x : Err) : Prop := x.kind = 0 ∨ x.kind = 1 ∨ x.kind = 2
def AfterPost (w : World) (rows : List (List Entry)) (e : Ending) (w' : World) : Prop := ∃ eb, e = .returned (.pointer (some ⟨eb, 0, none⟩)) ∧ IsEd w' w.heap.size eb rows ∧ Below w.heap.size w w'
theorem isEd_made (W : World) (base : Nat) (hb : base ≤ W.heap.size) (n0 n1 n2 n3 sv : Value) : IsEd (W.alloc (.cells #[n0, n1, n2, n3, sv, .slice none 0 0] 90)) base W.heap.size [] :=
  ⟨_, .slice none 0 0, [], hb, World.alloc_heap_new W _, rfl, rfl, Own.nil _ _ _ _, rfl, fun j s r h => by simp at h, fun i j s t b _ h => by simp at h⟩
set_option maxHeartbeats 4000000 in
theorem after_any (v ev : Value) (x : Vol) (errata : List Err) (to : Int) (w : World) (hv : IsVol w v x) (hs : x.small) (he : RdE w ev errata) (hl : errata.length ≤ 1000) (hk : ∀ y ∈ errata, okKind y) :
    Calls Tryz.prog 35 #[v, ev, .int .i64 to] w (AfterPost w (afterR x errata to)) := by
  obtain ⟨sv, rfl, A, c, rfl, hc, hm, hr⟩ := id hv
  obtain ⟨A0, c0, rfl, -⟩ := id he
  have R : Hid (afterR x errata to = (issuedL errata to).foldl stepE (rows0 x.parts)) := Lib.hid rfl
  have hps : x.parts.length ≤ 100 ∧ ∀ p ∈ x.parts, p.paras.length ≤ 1000 := ⟨hs.1, fun p hp => (hs.2 p hp).1⟩
  clear hv hs
  obtain ⟨n0, n1, n2, n3, ps⟩ := x
  dsimp only [Vol.val] at hc hm hr R hps ⊢
  generalize afterR _ _ _ = rr at R ⊢
  refine callsIn_wide.1 (callsIn_of_wp_marks (n := 9) Tryz.func35 rfl trivial ?_ rfl)
  simp only [Tryz.ntmps35, List.size_toArray, List.length_cons, List.length_nil, Nat.reduceAdd, Nat.reduceSub, Array.replicate_succ, Array.replicate_zero, List.push_toArray, List.append_toArray, List.nil_append, List.cons_append]
  refine wpIn_wide.2 ?_
  go_wp2
  obtain ⟨w3, hw3⟩ : ∃ w3, ((w.alloc (.cells #[.int .i64 n0, .int .i64 n1, .int .i64 n2, .int .i64 n3, .slice A ps.length c] 37)).alloc (.cells #[.int .i64 n0, .int .i64 n1, .int .i64 n2, .int .i64 n3, .slice A ps.length c, .slice none 0 0] 90)).alloc (.cells #[.pointer (some ⟨w.heap.size + 1, 0, none⟩)] 91) = w3 := ⟨_, rfl⟩
  have hB3 : Below w.heap.size w w3 := by
    rw [← hw3]; exact (((Below.refl _ w).alloc (Nat.le_refl _) _).alloc (by simp) _).alloc (by simp; omega) _
  have hE3 : IsEd w3 w.heap.size (w.heap.size + 1) [] := by
    have h := isEd_made (w.alloc (.cells #[.int .i64 n0, .int .i64 n1, .int .i64 n2, .int .i64 n3, .slice A ps.length c] 37)) w.heap.size (by simp) (.int .i64 n0) (.int .i64 n1) (.int .i64 n2) (.int .i64 n3) (.slice A ps.length c)
    rw [World.size_alloc] at h
    rw [← hw3]
    exact h.below ((Below.refl _ _).alloc (Nat.le_refl _) _)
  have hX3 : Boxed w3 (w.heap.size + 1 + 1) 91 (.pointer (some ⟨w.heap.size + 1, 0, none⟩)) := by
    have h := Boxed.new ((w.alloc (.cells #[.int .i64 n0, .int .i64 n1, .int .i64 n2, .int .i64 n3, .slice A ps.length c] 37)).alloc (.cells #[.int .i64 n0, .int .i64 n1, .int .i64 n2, .int .i64 n3, .slice A ps.length c, .slice none 0 0] 90)) 91 (.pointer (some ⟨w.heap.size + 1, 0, none⟩))
    rw [World.size_alloc, World.size_alloc, hw3] at h
    exact h
  rw [hw3]
  clear hw3
  go_loopg [23] ps.length (fun gg s23 wr => ∃ kk : Nat, kk ≤ ps.length ∧ ps.length - kk ≤ gg ∧ s23 = .int .i64 kk ∧ Aside (IsEd wr w.heap.size (w.heap.size + 1) ((rows0 ps).take kk) ∧ Boxed wr (w.heap.size + 1 + 1) 91 (.pointer (some ⟨w.heap.size + 1, 0, none⟩)) ∧ Below w.heap.size w wr))
  case atStart => exact ⟨0, Nat.zero_le _, by omega, rfl, by simpa using hE3, hX3, hB3⟩
  case round =>
    obtain ⟨kk, hkk, hg, rfl, A1⟩ := hrel
    have hE := A1.out.1
    have hX := A1.out.2.1
    have hB := A1.out.2.2
    by_cases hlt : kk < ps.length
    · obtain ⟨b, off, rfl, hb, hr1⟩ := hr (by omega)
      clear hr
      have hb' : b < wr.heap.size := Nat.lt_of_lt_of_le hb hB.size
      obtain ⟨d1, pv, d2, d3⟩ := (hr1.below hb hB) kk hlt
      have hpl : ps[kk].paras.length ≤ 1000 := hps.2 _ (List.getElem_mem hlt)
      have hr0 : (rows0 ps).length = ps.length := by simp [rows0]
      have hts : Hid ((rows0 ps).take (kk + 1) = (rows0 ps).take kk ++ [row0 ps[kk]]) := Lib.hid (by
        rw [List.take_succ_eq_append_getElem (by omega)]
        simp [rows0])
      have hrl : ((rows0 ps).take kk).length = kk := by rw [List.length_take]; omega
      generalize hrw : (rows0 ps).take kk = rw0 at hts hE hrl
      generalize ps[kk] = p at d1 d2 d3 hpl hts
      obtain ⟨dd, qs⟩ := p
      dsimp only at d1 d2 d3 hpl
      obtain ⟨A2, c2, rfl, hc2, hm2, hr2⟩ := id d3
      clear hr1 d3 A1
      have hlX := hX.lt
      have cX := hX.cell
      have hHE := Lib.hid hE; have hHX := Lib.hid hX; have hHB := Lib.hid hB
      have hq0 : (row0 ⟨dd, qs⟩).length = qs.length := by simp [row0]
      have hqg : Hid (∀ j (h : j < qs.length) (h' : j < (row0 ⟨dd, qs⟩).length), (row0 ⟨dd, qs⟩)[j] = ⟨qs[j].anchor, qs[j].text, false⟩) := Lib.hid fun j h h' => by simp [row0]
      have hz0 := hB.size
      have hzX : w.heap.size + 1 + 1 < wr.heap.size := hlX
      clear hE hX hB hE3 hX3 hB3
      generalize row0 ⟨dd, qs⟩ = rr0 at hts hq0 hqg
      rename World => wo
      go_wp2
      go_loopg [10, 30] qs.length (fun gg s10 s30 wq => ∃ jj : Nat, jj ≤ qs.length ∧ qs.length - jj ≤ gg ∧ s30 = .int .i64 jj ∧ Aside (Own EN 95 wq (wo.heap.size + 1) s10 (rr0.take jj) ∧ Below (wo.heap.size + 1) (wo.alloc (.cells #[.int .i64 dd, .slice A2 qs.length c2] 79)) wq))
      case atStart => exact ⟨0, Nat.zero_le _, by omega, rfl, by simpa using Own.nil _ _ _ _, Below.refl _ _⟩
      case round =>
        obtain ⟨jj, hjj, hg2, rfl, A3⟩ := hrel
        have hOl := A3.out.1
        have hBl := A3.out.2
        have hzl := hBl.size
        rw [World.size_alloc] at hzl
        have hBo : Below wo.heap.size wo wr := ((Below.refl _ wo).alloc (Nat.le_refl _) _).trans (hBl.mono (by omega))
        by_cases hlj : jj < qs.length
        · obtain ⟨b3, off3, rfl, hb3, hra⟩ := hr2 (by omega)
          clear hr2
          have hc' := (Rd.below (enc := EP.f) (k := EP.k) (xs := qs) ⟨_, c2, rfl, hc2, hm2, fun _ => ⟨b3, off3, rfl, hb3, hra⟩⟩ hBo)
          obtain ⟨A4, c4, e4, -, -, hr4⟩ := hc'
          obtain ⟨b4, off4, e5, hb4, hra4⟩ := hr4 (by omega)
          simp only [Value.slice.injEq] at e4
          obtain ⟨rfl, -, rfl⟩ := e4
          cases e5
          have hc5 := hra4 jj hlj
          have htl : Hid (rr0.take (jj + 1) = rr0.take jj ++ [⟨qs[jj].anchor, qs[jj].text, false⟩]) := Lib.hid (by
            rw [List.take_succ_eq_append_getElem (by omega), hqg.out jj hlj (by omega)])
          have hrl2 : (rr0.take jj).length ≤ 1000 := by rw [List.length_take]; omega
          generalize hrr1 : rr0.take jj = r0 at htl hOl hrl2
          generalize qs[jj] = y at hc5 htl
          obtain ⟨y0, y1⟩ := y
          dsimp only at htl
          have g0 := hc5 0 _ rfl; have g1 := hc5 1 _ rfl
          simp only [Nat.add_zero, show EP.k = 2 from rfl] at g0 g1
          have hOl' := hOl.alloc (.cells #[.int .i64 y0, .string y1] 67)
          have HBL := Lib.hid hBl
          clear hc5 hra hra4 hr4 A3 hOl hBl hBo
          have hbs : wo.heap.size + 1 ≤ (wr.alloc (.cells #[.int .i64 y0, .string y1] 67)).heap.size := by simp; omega
          go_wp2_with (at_builtin; refine wp_append_one EN (wo.heap.size + 1) rfl _ _ 93 95 95 _ 32 (EN.f ⟨y0, y1, false⟩).toArray rfl Tryz.underlying93 Tryz.infoEntry rfl (by decide) u10 r0 ⟨y0, y1, false⟩ rfl rfl (by rw [World.size_alloc]; rfl) hOl' hbs (by omega) ?_; intro v1 w1 hO1 hg1 hb1 hat1)
          go_roundg (qs.length - (jj + 1))
          case measure => omega
          case rel =>
            refine ⟨jj + 1, by omega, by omega, by go_num, ?_, (HBL.out.alloc (by omega) _).trans hb1⟩
            rw [htl.out]; exact hO1
        · have : jj = qs.length := by omega
          subst this
          have hOf : Own EN 95 wr (wo.heap.size + 1) u10 rr0 := by
            have h := hOl
            rwa [List.take_of_length_le (by omega)] at h
          obtain ⟨A5, c5, rfl, -⟩ := id hOf.rd
          rw [hq0] at hOf
          have hE' := hHE.out.below hBo
          have hBo2 := Lib.hid hBo
          have hX' := hHX.out.kept (grownBy_of_below hBo none) (by simp)
          have hB' := hHB.out.go hBo
          obtain ⟨Ao, co, ss, k5o, kf, hOoo, hsl, hkeep, hpush⟩ := hHE.out.cell5
          rw [hrl] at k5o hOoo hkeep hpush hsl
          have k5 := (hBo.cell (p := ⟨w.heap.size + 1, 5, none⟩) (hHE.out.lt).2).trans k5o
          have hOo := hOoo.below hBo
          have hpush := Lib.hid hpush
          clear k5o hOoo kf
          have lE := hE'.lt
          have cX' := hX'.cell
          clear A3 hOl hBl hr2
          go_wp2
          have lEb := lE.2
          have hovX : (Value.slice Ao kk co).ownBlock ≠ some (w.heap.size + 1 + 1) := hOo.ne_block hX' (by decide)
          have hRs := rd_single (W := (wr.alloc (.cells #[.slice A5 qs.length c5] 93)).drew) (b := wr.heap.size) ⟨A5, qs.length, c5⟩ (World.alloc_heap_new wr _)
          have hOo2 : Own ES 93 (wr.alloc (.cells #[.slice A5 qs.length c5] 93)).drew w.heap.size (.slice Ao kk co) ss := hOo.alloc _
          have hBw : Below wr.heap.size wr (wr.alloc (.cells #[.slice A5 qs.length c5] 93)).drew := ((Below.refl _ wr).alloc (Nat.le_refl _) _).drewN 1
          have hzw : (wr.alloc (.cells #[.slice A5 qs.length c5] 93)).drew.heap.size = wr.heap.size + 1 := by show (wr.alloc _).heap.size = _; rw [World.size_alloc]
          have lX' := hX'.lt
          have KP := Lib.hid (hkeep _ · (hBo2.out.trans (hBw.mono hBo2.out.size)) ·)
          have HSL : Hid ((ss ++ [(⟨A5, qs.length, c5⟩ : Sl)]).length = kk + 1) := Lib.hid (by simp [hsl])
          have CX : Hid (∀ w1, ((wr.alloc (.cells #[.slice A5 qs.length c5] 93)).drew).grownBy w1 (Value.slice Ao kk co).ownBlock → w1.cell? ⟨w.heap.size + 1 + 1, 0, none⟩ = some (.pointer (some ⟨w.heap.size + 1, 0, none⟩))) := Lib.hid fun w1 hg1 => by
            have h1 : Boxed ((wr.alloc (.cells #[.slice A5 qs.length c5] 93)).drew) (w.heap.size + 1 + 1) 91 (.pointer (some ⟨w.heap.size + 1, 0, none⟩)) := hX'.alloc _
            exact (h1.kept hg1 (Ne.symm hovX)).cell
          have FIN : Hid (∀ w1 v1, Own ES 93 w1 w.heap.size v1 (ss ++ [⟨A5, qs.length, c5⟩]) → ((wr.alloc (.cells #[.slice A5 qs.length c5] 93)).drew).grownBy w1 (Value.slice Ao kk co).ownBlock → Below w.heap.size ((wr.alloc (.cells #[.slice A5 qs.length c5] 93)).drew) w1 →
              IsEd (w1.setCell ⟨w.heap.size + 1, 5, none⟩ v1) w.heap.size (w.heap.size + 1) (rw0 ++ [rr0]) ∧ Boxed (w1.setCell ⟨w.heap.size + 1, 5, none⟩ v1) (w.heap.size + 1 + 1) 91 (.pointer (some ⟨w.heap.size + 1, 0, none⟩)) ∧ Below w.heap.size w (w1.setCell ⟨w.heap.size + 1, 5, none⟩ v1)) := Lib.hid fun w1 v1 f1 f2 f3 => by
            have hne : ∀ b, (Value.slice A5 qs.length c5).ownBlock = some b → (Value.slice Ao kk co).ownBlock ≠ some b := fun b hb => by
              rcases id hOf.2 with ⟨e0, _⟩ | ⟨g', _, cu, e0, _, hh, _⟩
              · rw [e0] at hb; cases hb
              · rw [e0] at hb; cases hb
                exact hOo.ne_block hh (by decide)
            have hOf1 : Own EN 95 ((wr.alloc (.cells #[.slice A5 qs.length c5] 93)).drew) (wo.heap.size + 1) (.slice A5 qs.length c5) rr0 := hOf.alloc _
            have hOf2 := hOf1.grown f2 (by
              cases hb : (Value.slice A5 qs.length c5).ownBlock with
              | none => exact .inl rfl
              | some b => exact .inr (Ne.symm (hne b hb)))
            have h1 : Boxed ((wr.alloc (.cells #[.slice A5 qs.length c5] 93)).drew) (w.heap.size + 1 + 1) 91 (.pointer (some ⟨w.heap.size + 1, 0, none⟩)) := hX'.alloc _
            refine ⟨hpush.out _ w1 v1 ⟨A5, qs.length, c5⟩ rr0 (hBo2.out.trans (hBw.mono hBo2.out.size)) f2 f1 (hOf2.lower (by omega)) (fun b hb => ?_), (h1.kept f2 (Ne.symm hovX)).kept (Lib.grownBy_setCell w1 _ 5 v1) (by simp), ?_⟩
            · have := (hOf.lt b hb).1; omega
            · exact ((hB'.trans (hBw.mono (by have := hB'.size; omega))).trans f3).setCell (p := ⟨w.heap.size + 1, 5, none⟩) (by simp) v1
          refine wp_region_noPanic ?_
          refine wp_region_held_drew (S := (fun w' => w'.cell? ⟨w.heap.size + 1 + 1, 0, none⟩ = some (.pointer (some ⟨w.heap.size + 1, 0, none⟩)))) (by kernel_rfl) (by (try dsimp only); go_keep) (fun hHeld => ?_)
          refine wpAnyH_takeL 0 (v := ?_) rfl (by kernel_rfl) (by kernel_rfl) (by kernel_rfl) (fun _ _ _ h => h) ⟨by rfl, ?_⟩ (by assumption) ?_
          rotate_left
          · intro w hSw; (try dsimp only at hSw); go_simp; try with_reducible rfl
          try simp only [Act.put, List.setIfInBounds_toArray, List.set_cons_zero, List.set_cons_succ]
          refine wpAnyH_takeL 1 (v := ?_) rfl (by kernel_rfl) (by kernel_rfl) (by kernel_rfl) (fun _ _ _ h => h) ⟨by rfl, ?_⟩ (by assumption) ?_
          rotate_left
          · intro w hSw; (try dsimp only at hSw); go_simp; try with_reducible rfl
          try simp only [Act.put, List.setIfInBounds_toArray, List.set_cons_zero, List.set_cons_succ]
          refine wpAnyH_takeL 2 (v := ?_) rfl (by kernel_rfl) (by kernel_rfl) (by kernel_rfl) (fun _ _ _ h => h) ⟨by rfl, ?_⟩ (by assumption) ?_
          rotate_left
          · intro w hSw; (try dsimp only at hSw); go_simp; try with_reducible rfl
          try simp only [Act.put, List.setIfInBounds_toArray, List.set_cons_zero, List.set_cons_succ]
          refine wpAnyH_takeL 3 (v := ?_) rfl (by kernel_rfl) (by kernel_rfl) (by kernel_rfl) (fun _ _ _ h => h) ⟨by rfl, ?_⟩ (by assumption) ?_
          rotate_left
          · intro w hSw; (try dsimp only at hSw); go_simp; try with_reducible rfl
          try simp only [Act.put, List.setIfInBounds_toArray, List.set_cons_zero, List.set_cons_succ]
          refine wpAnyH_takeL 5 (v := ?_) rfl (by kernel_rfl) (by kernel_rfl) (by kernel_rfl) (fun _ _ _ h => h) ⟨by rfl, ?_⟩ (by assumption) ?_
          rotate_left
          · intro w hSw; (try dsimp only at hSw); go_simp; try with_reducible rfl
          try simp only [Act.put, List.setIfInBounds_toArray, List.set_cons_zero, List.set_cons_succ]
          refine wpAnyH_ready (rs := [4, 6]) (by kernel_rfl) (by simp) ?_
          refine AllReadyH_consL (i := 4) rfl (fun K hK => ?_) (AllReadyH_consL (i := 6) rfl (fun K hK => ?_) AllReadyH.nil)
          · go_simp
            refine hK.out _ _ (by (try dsimp only); go_keep) (fun hHeld => ?_)
            clear hK K
            try simp only [Act.put, List.setIfInBounds_toArray, List.set_cons_zero, List.set_cons_succ]
            refine wpAnyH_ready (rs := [6]) (by kernel_rfl) (by simp) ?_
            refine AllReadyH_consL (i := 6) rfl (fun K hK => ?_) AllReadyH.nil
            go_simp
            refine hK.out _ _ (by (try dsimp only); go_keep) (fun hHeld => ?_)
            clear hK K
            try simp only [Act.put, List.setIfInBounds_toArray, List.set_cons_zero, List.set_cons_succ]
            refine wpAnyH_ready (rs := [7]) (by kernel_rfl) (by simp) ?_
            refine AllReadyH_consL (i := 7) rfl (fun K hK => ?_) AllReadyH.nil
            refine step_append_rd ES w.heap.size (by rfl) _ _ 88 93 (.slice none 0 0) 24 (by rfl) Tryz.underlying88 Tryz.infoEntries rfl (by decide) (.slice Ao kk co) (.slice (some ⟨wr.heap.size, 0, none⟩) 1 1) ss [⟨A5, qs.length, c5⟩] rfl rfl hOo2 hRs (by rw [hzw]; omega) (by simp only [List.length_cons, List.length_nil]; omega) ?_; intro v1 w1 hO1 hg1 hb1 hat1; obtain ⟨A9, c9, e9, -⟩ := id hO1.rd; rw [HSL.out] at e9; subst e9; have cX9 := CX.out w1 hg1; obtain ⟨k9, f9⟩ := KP.out w1 hg1; have HF := Lib.hid (FIN.out w1 _ hO1 hg1 hb1)
            refine hK.out _ _ (by (try dsimp only); go_keep) (fun hHeld => ?_)
            clear hK K
            try simp only [Act.put, List.setIfInBounds_toArray, List.set_cons_zero, List.set_cons_succ]
            refine wpAnyH_takeL 8 (v := ?_) rfl (by kernel_rfl) (by kernel_rfl) (by kernel_rfl) (fun _ _ _ h => h) ⟨by rfl, ?_⟩ (by assumption) ?_
            rotate_left
            · intro w hSw; (try dsimp only at hSw); go_simp; try with_reducible rfl
            try simp only [Act.put, List.setIfInBounds_toArray, List.set_cons_zero, List.set_cons_succ]
            refine wpAnyH_takeL 9 (v := ?_) rfl (by kernel_rfl) (by kernel_rfl) (by kernel_rfl) (fun _ _ _ h => h) ⟨by rfl, ?_⟩ (by assumption) ?_
            rotate_left
            · intro w hSw; (try dsimp only at hSw); go_simp; try with_reducible rfl
            try simp only [Act.put, List.setIfInBounds_toArray, List.set_cons_zero, List.set_cons_succ]
            refine wpAnyH_ready (rs := [10]) (by kernel_rfl) (by simp) ?_
            refine AllReadyH_consL (i := 10) rfl (fun K hK => ?_) AllReadyH.nil
            go_simp
            refine hK.out _ _ (by (try dsimp only); go_keep) (fun hHeld => ?_)
            clear hK K
            try simp only [Act.put, List.setIfInBounds_toArray, List.set_cons_zero, List.set_cons_succ]
            refine wpAnyH_done (by kernel_rfl) ?_ _
            refine NoPanic.normal ?_
            go_wp2
            go_roundg (ps.length - (kk + 1))
            case measure => omega
            case rel =>
              refine ⟨kk + 1, by omega, by omega, by go_num, ?_, HF.out.2.1, HF.out.2.2⟩
              rw [hts.out]; exact HF.out.1
          · go_simp
            refine hK.out _ _ (by (try dsimp only); go_keep) (fun hHeld => ?_)
            clear hK K
            try simp only [Act.put, List.setIfInBounds_toArray, List.set_cons_zero, List.set_cons_succ]
            refine wpAnyH_ready (rs := [4]) (by kernel_rfl) (by simp) ?_
            refine AllReadyH_consL (i := 4) rfl (fun K hK => ?_) AllReadyH.nil
            go_simp
            refine hK.out _ _ (by (try dsimp only); go_keep) (fun hHeld => ?_)
            clear hK K
            try simp only [Act.put, List.setIfInBounds_toArray, List.set_cons_zero, List.set_cons_succ]
            refine wpAnyH_ready (rs := [7]) (by kernel_rfl) (by simp) ?_
            refine AllReadyH_consL (i := 7) rfl (fun K hK => ?_) AllReadyH.nil
            refine step_append_rd ES w.heap.size (by rfl) _ _ 88 93 (.slice none 0 0) 24 (by rfl) Tryz.underlying88 Tryz.infoEntries rfl (by decide) (.slice Ao kk co) (.slice (some ⟨wr.heap.size, 0, none⟩) 1 1) ss [⟨A5, qs.length, c5⟩] rfl rfl hOo2 hRs (by rw [hzw]; omega) (by simp only [List.length_cons, List.length_nil]; omega) ?_; intro v1 w1 hO1 hg1 hb1 hat1; obtain ⟨A9, c9, e9, -⟩ := id hO1.rd; rw [HSL.out] at e9; subst e9; have cX9 := CX.out w1 hg1; obtain ⟨k9, f9⟩ := KP.out w1 hg1; have HF := Lib.hid (FIN.out w1 _ hO1 hg1 hb1)
            refine hK.out _ _ (by (try dsimp only); go_keep) (fun hHeld => ?_)
            clear hK K
            try simp only [Act.put, List.setIfInBounds_toArray, List.set_cons_zero, List.set_cons_succ]
            refine wpAnyH_takeL 8 (v := ?_) rfl (by kernel_rfl) (by kernel_rfl) (by kernel_rfl) (fun _ _ _ h => h) ⟨by rfl, ?_⟩ (by assumption) ?_
            rotate_left
            · intro w hSw; (try dsimp only at hSw); go_simp; try with_reducible rfl
            try simp only [Act.put, List.setIfInBounds_toArray, List.set_cons_zero, List.set_cons_succ]
            refine wpAnyH_takeL 9 (v := ?_) rfl (by kernel_rfl) (by kernel_rfl) (by kernel_rfl) (fun _ _ _ h => h) ⟨by rfl, ?_⟩ (by assumption) ?_
            rotate_left
            · intro w hSw; (try dsimp only at hSw); go_simp; try with_reducible rfl
            try simp only [Act.put, List.setIfInBounds_toArray, List.set_cons_zero, List.set_cons_succ]
            refine wpAnyH_ready (rs := [10]) (by kernel_rfl) (by simp) ?_
            refine AllReadyH_consL (i := 10) rfl (fun K hK => ?_) AllReadyH.nil
            go_simp
            refine hK.out _ _ (by (try dsimp only); go_keep) (fun hHeld => ?_)
            clear hK K
            try simp only [Act.put, List.setIfInBounds_toArray, List.set_cons_zero, List.set_cons_succ]
            refine wpAnyH_done (by kernel_rfl) ?_ _
            refine NoPanic.normal ?_
            go_wp2
            go_roundg (ps.length - (kk + 1))
            case measure => omega
            case rel =>
              refine ⟨kk + 1, by omega, by omega, by go_num, ?_, HF.out.2.1, HF.out.2.2⟩
              rw [hts.out]; exact HF.out.1
    · have : kk = ps.length := by omega
      subst this
      have hrr : (rows0 ps).take ps.length = rows0 ps := List.take_of_length_le (by simp [rows0])
      rw [hrr] at hE
      clear A1 hE3 hX3 hB3 hrr hr hlt
      have cX := hX.cell
      go_wp2
      have hze : wr.heap.size = wr.heap.size := rfl
      obtain ⟨W2, hW2⟩ : ∃ W2, (wr.alloc (.cells #[.slice A0 errata.length c0] 39)).alloc (.cells #[.int .i64 to] 3) = W2 := ⟨_, rfl⟩
      have hBr : Below wr.heap.size wr W2 := by rw [← hW2]; exact ((Below.refl _ _).alloc (Nat.le_refl _) _).alloc (by simp) _
      have hE2 : W2.heap[wr.heap.size]? = some (.cells #[.slice A0 errata.length c0] 39 (0, 0)) := by
        rw [← hW2]; exact (Boxed.new wr 39 (.slice A0 errata.length c0)).alloc _
      have hT2 : W2.heap[wr.heap.size + 1]? = some (.cells #[.int .i64 to] 3 (0, 0)) := by
        rw [← hW2]; have h := Boxed.new (wr.alloc (.cells #[.slice A0 errata.length c0] 39)) 3 (.int .i64 to); rw [World.size_alloc] at h; exact h
      rw [hW2]
      clear hW2
      have hB2 := hB.go hBr
      have hEd2 := hE.below hBr
      have hX2 := hX.kept (grownBy_of_below hBr none) (by simp)
      have hlE := hE.lt
      have hz2 := hBr.size
      have hsm0 := Lib.hid (small_rows0 hps)
      clear hE hX hB cX hze
      refine (wpIn_wide (n := 9)).1 ?_
      refine wpIn_rangeFunc_ownH (F := Fence.wide) (n := 9) rfl (by decide) (gf := 77) (lb := #[.pointer (some ⟨wr.heap.size, 0, none⟩), .pointer (some ⟨wr.heap.size + 1, 0, none⟩)]) rfl trivial (enters_of Tryz.func77 (by kernel_rfl) rfl)
        (issued1_stops 8 W2 wr.heap.size (wr.heap.size + 1) _ errata to hE2 hT2 (he.below hB2) (by omega) okKind hk) KeepT.trans (fun W ll o o' _ hll hc _ => KeepT.putObj W ll o o' hll hc) (Below.refl _ _) (fun _ => rfl)
        (fun pre W => (IsEd W w.heap.size (w.heap.size + 1) ((und pre).foldl stepE (rows0 ps)) ∧ Boxed W (w.heap.size + 1 + 1) 91 (.pointer (some ⟨w.heap.size + 1, 0, none⟩))) ∧ Below w.heap.size w W)
        (fun _ _ _ => False)
        (OwnFrom.and (OwnFrom.and (isEd_own _ _ _ _) (Go.Own.from (boxed_own _ _ (fun _ => .pointer (some ⟨w.heap.size + 1, 0, none⟩))) _)) (ownFrom_below (Nat.le_refl _) (by omega)))
        (fun _ _ _ _ _ hs _ _ => hs)
        ⟨⟨hEd2, hX2⟩, hB2⟩
        (fun x a' W => ∃ Bx, w.heap.size + 1 + 1 < Bx ∧ W.heap[Bx]? = some (.cells x.1.enc.toArray 77 (0, 0)) ∧ a' = { tmps := #[.agg #[.int .i64 n0, .int .i64 n1, .int .i64 n2, .int .i64 n3, .slice A ps.length c], .slice A0 errata.length c0, .int .i64 to, .pointer (some ⟨w.heap.size, 0, none⟩), undef, undef, .pointer none, .pointer (some ⟨w.heap.size + 1 + 1, 0, none⟩), undef, u9, u10, undef, u12, .pointer (some ⟨Bx, 0, none⟩), undef, undef, undef, .agg #[.int .i64 n0, .int .i64 n1, .int .i64 n2, .int .i64 n3, .slice A ps.length c], .agg #[.int .i64 n0, .int .i64 n1, .int .i64 n2, .int .i64 n3, .slice A ps.length c, .slice none 0 0], .pointer (some ⟨w.heap.size + 1, 0, none⟩), .pointer (some ⟨w.heap.size, 4, none⟩), .slice A ps.length c, .int .i64 ps.length, .int .i64 ps.length, .bool false, u25, u26, u27, u28, u29, u30, u31, u32, u33, u34, u35, u36, u37, u38, u39, u40, u41, u42, u43, u44, u45, u46, u47, u48, u49, u50, .slice A0 errata.length c0, .int .i64 to, .func (.func 77) #[] #[.pointer (some ⟨wr.heap.size, 0, none⟩), .pointer (some ⟨wr.heap.size + 1, 0, none⟩)], x.1.val, undef, undef, undef, undef, undef, undef, undef, undef, undef, undef, undef, undef, undef, undef, undef, undef, undef, undef, undef, undef, undef], defers := [] })
        (fun x a' _ X Y row hs hg hr => by
          obtain ⟨Bx, h1, h2, h3⟩ := hs
          refine ⟨Bx, h1, ?_, h3⟩
          rw [hg.block Bx (Array.getElem?_eq_some_iff.1 h2).1 (fun e' => by
            obtain ⟨_, o, ho, hc⟩ := hr Bx e'.symm
            rw [h2] at ho; cases ho; cases hc)]
          exact h2)
        ?assign ?body ?done ?stop
      case assign =>
        rintro l' pre ⟨⟨y0, y1, y2, y3, y4, y5⟩, hy⟩ W K ⟨⟨hE3, hX3⟩, hB3⟩ hK
        dsimp only [Err.val]
        gi_wp2
        exact hK _ _ ((KeepsOthers.alloc _ _).from _) (KeepT.below ((Below.refl _ W).alloc (Nat.le_refl _) _)) ⟨⟨hE3.below ((Below.refl _ W).alloc (Nat.le_refl _) _), hX3.alloc _⟩, hB3.alloc hB3.size _⟩ ⟨W.heap.size, hX3.lt, World.alloc_heap_new W _, rfl⟩
      case body =>
        rintro l' pre ⟨⟨y0, y1, y2, y3, y4, y5⟩, hy⟩ a' W hl' ⟨r0, hr0⟩ ⟨⟨hE3, hX3⟩, hB3⟩ ⟨Bx, hBx, hX, rfl⟩ hlt
        have q0 : W.cell? ⟨Bx, 0, none⟩ = some (.int .i64 y0) := by simp [World.cell?, hX, Err.enc]
        have q1 : W.cell? ⟨Bx, 1, none⟩ = some (.int .i64 y1) := by simp [World.cell?, hX, Err.enc]
        have q2 : W.cell? ⟨Bx, 2, none⟩ = some (.int .u8 y2) := by simp [World.cell?, hX, Err.enc]
        have q3 : W.cell? ⟨Bx, 3, none⟩ = some (.int .i64 y3) := by simp [World.cell?, hX, Err.enc]
        have q4 : W.cell? ⟨Bx, 4, none⟩ = some (.string y4) := by simp [World.cell?, hX, Err.enc]
        have q5 : W.cell? ⟨Bx, 5, none⟩ = some (.int .i64 y5) := by simp [World.cell?, hX, Err.enc]
        have hXlt := (Array.getElem?_eq_some_iff.1 hX).1
        have cX := hX3.cell
        have lX := hX3.lt
        have hum := Lib.hid (und_snoc pre ⟨⟨y0, y1, y2, y3, y4, y5⟩, hy⟩)
        have hul : (und pre).length = pre.length := by simp [und]
        have hsm1 := small_fold hsm0.out (und pre)
        have hst : Hid ((und pre ++ [(⟨y0, y1, y2, y3, y4, y5⟩ : Err)]).foldl stepE (rows0 ps) = stepE ((und pre).foldl stepE (rows0 ps)) ⟨y0, y1, y2, y3, y4, y5⟩) := Lib.hid (by rw [List.foldl_append]; rfl)
        dsimp only [Err.val] at hum hst ⊢
        rw [hul] at hsm1
        generalize (und pre).foldl stepE (rows0 ps) = rows at hE3 hsm1 hst
        have hfind := edFind_any W w.heap.size (w.heap.size + 1) rows y3 hE3 (by have := hsm1.1; omega)
        have HE := Lib.hid hE3
        have HS := Lib.hid hsm1
        clear he hk hE2 hT2 hB2 R hE3 hsm1 hsm0 hEd2 hX2 hul hps
        cases hloc : locate y3 rows with
        | none =>
          rw [hloc] at hfind
          dsimp only [locV] at hfind
          gi_wp2_with (refine ⟨trivial, ?_⟩; gi_at_call 41; refine (CallsIn.inRound l' (callsIn_wide.2 hfind)).mono ?_; rintro e w' ⟨rfl, hb⟩)
          have hr1 : rows = stepE rows ⟨y0, y1, y2, y3, y4, y5⟩ := by unfold stepE; rw [hloc]
          refine ⟨KeepsOthers.from ⟨hb.size, fun k o hk' _ => by rw [hb.block k (Array.getElem?_eq_some_iff.1 hk').1]; exact hk'⟩ _, KeepT.below hb, ⟨?_, hX3.kept (grownBy_of_below hb none) (by simp)⟩, hB3.go hb⟩
          rw [hum.out, hst.out, ← hr1]
          exact HE.out.below hb
        | some ij =>
          obtain ⟨i, j⟩ := ij
          rw [hloc] at hfind
          dsimp only [locV] at hfind
          gi_wp2_with (refine ⟨trivial, ?_⟩; gi_at_call 41; refine (CallsIn.inRound l' (callsIn_wide.2 hfind)).mono ?_; rintro e w' ⟨rfl, hb⟩)
          have hX4 := hX3.kept (grownBy_of_below hb none) (by simp)
          have hBx4 : w'.heap[Bx]? = some (.cells #[.int .i64 y0, .int .i64 y1, .int .u8 y2, .int .i64 y3, .string y4, .int .i64 y5] 77 (0, 0)) := by rw [hb.block Bx hXlt]; exact hX
          have hq : ¬ LetsOut (Exit.inBlock 5 (ownPostG W2.heap.size KeepT (fun pre W => (IsEd W w.heap.size (w.heap.size + 1) ((und pre).foldl stepE (rows0 ps)) ∧ Boxed W (w.heap.size + 1 + 1) 91 (.pointer (some ⟨w.heap.size + 1, 0, none⟩))) ∧ Below w.heap.size w W) (fun _ _ _ => False) (pre ++ [⟨⟨y0, y1, y2, y3, y4, y5⟩, hy⟩]) W)) := fun ⟨_, _, h⟩ => h
          refine region_round l' _ (S := fun w0 => Boxed w0 (w.heap.size + 1 + 1) 91 (.pointer (some ⟨w.heap.size + 1, 0, none⟩)) ∧ w0.heap[Bx]? = some (.cells #[.int .i64 y0, .int .i64 y1, .int .u8 y2, .int .i64 y3, .string y4, .int .i64 y5] 77 (0, 0))) (by kernel_rfl) (noDefer_spec (by kernel_rfl)) hq ?_
          have hS0 : Boxed w'.drew (w.heap.size + 1 + 1) 91 (.pointer (some ⟨w.heap.size + 1, 0, none⟩)) ∧ w'.drew.heap[Bx]? = some (.cells #[.int .i64 y0, .int .i64 y1, .int .u8 y2, .int .i64 y3, .string y4, .int .i64 y5] 77 (0, 0)) := ⟨hX4, hBx4⟩
          refine wpAnyH_take (i := 1) (v := .pointer (some ⟨Bx, 2, none⟩)) rfl (by kernel_rfl) (by kernel_rfl) (by kernel_rfl) (fun _ _ _ h => h) (Or.inl ⟨by rfl, fun w0 hw0 => ?_⟩) hS0 ?_
          · simp [go_sem]
          simp only [Act.put, List.setIfInBounds_toArray]
          refine wpAnyH_take (i := 2) (v := .int .u8 y2) rfl (by kernel_rfl) (by kernel_rfl) (by kernel_rfl) (fun _ _ _ h => h) (Or.inl ⟨by rfl, fun w0 hw0 => ?_⟩) hS0 ?_
          · simp [go_sem, World.cell?, hw0.2]
          simp only [Act.put]
          refine wpAnyH_take (i := 6) (v := .pointer (some ⟨w.heap.size + 1, 0, none⟩)) rfl (by kernel_rfl) (by kernel_rfl) (by kernel_rfl) (fun _ _ _ h => h) (Or.inl ⟨by rfl, fun w0 hw0 => ?_⟩) hS0 ?_
          · have := hw0.1.cell; simp [go_sem, this]
          simp only [Act.put]
          refine wpAnyH_take (i := 7) (v := .int .i64 i) rfl (by kernel_rfl) (by kernel_rfl) (by kernel_rfl) (fun _ _ _ h => h) (Or.inl ⟨by rfl, fun w0 hw0 => ?_⟩) hS0 ?_
          · simp [go_sem]
          simp only [Act.put]
          refine wpAnyH_take (i := 8) (v := .int .i64 j) rfl (by kernel_rfl) (by kernel_rfl) (by kernel_rfl) (fun _ _ _ h => h) (Or.inl ⟨by rfl, fun w0 hw0 => ?_⟩) hS0 ?_
          · simp [go_sem]
          simp only [Act.put]
          refine wpAnyH_take (i := 9) (v := .agg #[.int .i64 y0, .int .i64 y1, .int .u8 y2, .int .i64 y3, .string y4, .int .i64 y5]) rfl (by kernel_rfl) (by kernel_rfl) (by kernel_rfl) (fun _ _ _ h => h) (Or.inl ⟨by rfl, fun w0 hw0 => ?_⟩) hS0 ?_
          · simp [go_sem, World.cell?, hw0.2]
          simp only [Act.put]
          refine wpAnyH_one (i := 0) rfl (by kernel_rfl) (by rfl) ?_
          unfold Oper.wp
          go_simp
          refine (kinds_any _).mono ?_
          rintro e W5 ⟨rfl, hW5⟩
          have hB5 : Below w'.heap.size w' W5 := by rw [hW5]; exact ((Below.refl _ w').drewN 1).alloc (Nat.le_refl _) _
          have hK5 : W5.heap[w'.heap.size]? = some (.cells #[.func (.func 79) #[] #[], .func (.func 80) #[] #[], .func (.func 81) #[] #[]] 136 (0, 0)) := by rw [hW5]; exact World.alloc_heap_new w'.drew _
          clear hW5
          have hS5 : Boxed W5 (w.heap.size + 1 + 1) 91 (.pointer (some ⟨w.heap.size + 1, 0, none⟩)) ∧ W5.heap[Bx]? = some (.cells #[.int .i64 y0, .int .i64 y1, .int .u8 y2, .int .i64 y3, .string y4, .int .i64 y5] 77 (0, 0)) :=
            ⟨hX4.kept (grownBy_of_below hB5 none) (by simp), by rw [hB5.block Bx (Array.getElem?_eq_some_iff.1 hBx4).1]; exact hBx4⟩
          refine ⟨hS5, ?_⟩
          have hE5 := (HE.out.below hb).below hB5
          obtain ⟨r, en, hri, hrj⟩ := locate_spec hloc
          have hb5 : w.heap.size ≤ W5.heap.size := by have := hB3.size; have := hb.size; have := hB5.size; omega
          have hsz5 : rows.length ≤ 1000 ∧ r.length ≤ 100000 := ⟨by have := HS.out.1; omega, by have := HS.out.2 r (List.mem_of_getElem? hri); omega⟩
          have kc0 : W5.cell? ⟨w'.heap.size, 0, none⟩ = some (.func (.func 79) #[] #[]) := by simp [World.cell?, hK5]
          have kc1 : W5.cell? ⟨w'.heap.size, 1, none⟩ = some (.func (.func 80) #[] #[]) := by simp [World.cell?, hK5]
          have kc2 : W5.cell? ⟨w'.heap.size, 2, none⟩ = some (.func (.func 81) #[] #[]) := by simp [World.cell?, hK5]
          have CL : Hid (∀ w6 rows', IsEd w6 w.heap.size (w.heap.size + 1) rows' → KeepD W5 w6 → Below w.heap.size W5 w6 → stepE rows ⟨y0, y1, y2, y3, y4, y5⟩ = rows' →
              (Boxed w6 (w.heap.size + 1 + 1) 91 (.pointer (some ⟨w.heap.size + 1, 0, none⟩)) ∧ w6.heap[Bx]? = some (.cells #[.int .i64 y0, .int .i64 y1, .int .u8 y2, .int .i64 y3, .string y4, .int .i64 y5] 77 (0, 0))) ∧
              (KeepsFrom W2.heap.size W w6 ∧ KeepT W w6 ∧ (IsEd w6 w.heap.size (w.heap.size + 1) ((und (pre ++ [⟨⟨y0, y1, y2, y3, y4, y5⟩, hy⟩])).foldl stepE (rows0 ps)) ∧ Boxed w6 (w.heap.size + 1 + 1) 91 (.pointer (some ⟨w.heap.size + 1, 0, none⟩))) ∧ Below w.heap.size w w6)) := Lib.hid fun w6 rows' f1 f2 f3 f4 => by
            have hk := ((KeepD.below hb).trans (KeepD.below hB5)).trans f2
            have hx6 := f2.boxed hS5.1 (by decide)
            have hx7 : w6.heap[Bx]? = some (.cells #[.int .i64 y0, .int .i64 y1, .int .u8 y2, .int .i64 y3, .string y4, .int .i64 y5] 77 (0, 0)) := f2.2 Bx _ (fun cs t fr e => by cases e; decide) hS5.2
            refine ⟨⟨hx6, hx7⟩, hk.from _, hk.keepT, ⟨?_, hx6⟩, (((hB3.go hb).trans (hB5.mono (by have := hB3.size; have := hb.size; omega)))).trans f3⟩
            rw [hum.out, hst.out, f4]; exact f1
          clear hS0 hX hBx4 hX4 hum hst q0 q1 q2 q3 q4 q5 hfind HE HS hB5 hK5 hq
          rcases hy with hk2 | hk2 | hk2 <;> dsimp only at hk2
          · subst hk2
            refine wpAnyH_one (i := 3) rfl (by kernel_rfl) (by rfl) ?_
            unfold Oper.wp
            go_simp
            refine wpAnyH_one (i := 4) rfl (by kernel_rfl) (by rfl) ?_
            unfold Oper.wp
            go_simp
            refine wpAnyH_one (i := 5) rfl (by kernel_rfl) (by rfl) ?_
            unfold Oper.wp
            go_simp
            refine wpAnyH_one (i := 10) rfl (by kernel_rfl) (by rfl) ?_
            unfold Oper.wp
            go_simp
            refine (edChange_any W5 w.heap.size (w.heap.size + 1) rows i j r en ⟨y0, y1, 0, y3, y4, y5⟩ hE5 hri hrj hb5 hsz5).mono ?_
            rintro e w6 ⟨rfl, f1, f2, f3⟩
            obtain ⟨g1, g2⟩ := CL.out w6 _ f1 f2 f3 (by unfold stepE; rw [hloc]; simp [List.getD_eq_getElem?_getD, hri, hrj])
            exact ⟨g1, wpAnyH_done (by kernel_rfl) g2 _⟩
          · subst hk2
            refine wpAnyH_one (i := 3) rfl (by kernel_rfl) (by rfl) ?_
            unfold Oper.wp
            go_simp
            refine wpAnyH_one (i := 4) rfl (by kernel_rfl) (by rfl) ?_
            unfold Oper.wp
            go_simp
            refine wpAnyH_one (i := 5) rfl (by kernel_rfl) (by rfl) ?_
            unfold Oper.wp
            go_simp
            refine wpAnyH_one (i := 10) rfl (by kernel_rfl) (by rfl) ?_
            unfold Oper.wp
            go_simp
            refine (edRemove_any W5 w.heap.size (w.heap.size + 1) rows i j r en ⟨y0, y1, 1, y3, y4, y5⟩ hE5 hri hrj hb5 hsz5).mono ?_
            rintro e w6 ⟨rfl, f1, f2, f3⟩
            obtain ⟨g1, g2⟩ := CL.out w6 _ f1 f2 f3 (by unfold stepE; rw [hloc]; simp [List.getD_eq_getElem?_getD, hri, hrj])
            exact ⟨g1, wpAnyH_done (by kernel_rfl) g2 _⟩
          · subst hk2
            refine wpAnyH_one (i := 3) rfl (by kernel_rfl) (by rfl) ?_
            unfold Oper.wp
            go_simp
            refine wpAnyH_one (i := 4) rfl (by kernel_rfl) (by rfl) ?_
            unfold Oper.wp
            go_simp
            refine wpAnyH_one (i := 5) rfl (by kernel_rfl) (by rfl) ?_
            unfold Oper.wp
            go_simp
            refine wpAnyH_one (i := 10) rfl (by kernel_rfl) (by rfl) ?_
            unfold Oper.wp
            go_simp
            refine (edAdd_any W5 w.heap.size (w.heap.size + 1) rows i j r en ⟨y0, y1, 2, y3, y4, y5⟩ hE5 hri hrj hb5 hsz5).mono ?_
            rintro e w6 ⟨rfl, f1, f2, f3⟩
            obtain ⟨g1, g2⟩ := CL.out w6 _ f1 f2 f3 (by unfold stepE; rw [hloc]; simp [List.getD_eq_getElem?_getD, hri])
            exact ⟨g1, wpAnyH_done (by kernel_rfl) g2 _⟩
      case done =>
        rintro D xs W hD hSx ⟨⟨hE3, hX3⟩, hB3⟩ hK
        have HN : Hid (rr = (und xs).foldl stepE (rows0 ps)) := Lib.hid (by rw [R.out, ← hSx]; rfl)
        have cX := hX3.cell
        clear he hk hE2 hT2 hB2 R
        go_wp2
        refine ⟨by simp, .inl ⟨_, _, rfl, run_takeDeferred hK, ?_⟩⟩
        refine ⟨_, results_tmp rfl _ _ _, _, rfl, ?_, hB3.trans (belowK_b (w := W2) (by omega) _ D _ _ (by omega) hK rfl rfl)⟩
        rw [HN.out]
        exact hE3.off (grownBy_putObj' W D _) (fun r e => by cases e; exact ⟨_, hK, rfl⟩)
      case stop =>
        rintro D c pre W hD hpre h hK
        exact h.elim
end Go.Proofs.YtjkmdpejcgepkaaGreatDoor
