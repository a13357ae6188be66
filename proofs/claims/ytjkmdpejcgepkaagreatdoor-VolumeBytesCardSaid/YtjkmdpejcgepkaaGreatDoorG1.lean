/- Plain laws: what is found stays; what is read is what is found. -/
import Derived.Test.YtjkmdpejcgepkaaGreatDoorP1
namespace Go.Proofs.YtjkmdpejcgepkaaGreatDoor
open Go.RowKit
theorem checkVol_nodup {x : Vol} (h : checkVol x = 0) : (ancs x.paras).Nodup := by
  unfold checkVol at h
  split at h
  · simp at h
  · split at h
    · simp at h
    · split at h
      · assumption
      · simp at h
theorem rows0_ancs (ps : List Part) : (rows0 ps).flatten.map (·.anchor) = ancs (ps.flatMap (·.paras)) := by
  rw [rows0_flat]; simp [ancs]
theorem ok_kinds {x : Vol} {er : List Err} (h : EOk x er) {y : Err} (hy : y ∈ er) : y.kind = 0 ∨ y.kind = 1 ∨ y.kind = 2 := by
  obtain ⟨j, hj, rfl⟩ := List.mem_iff_getElem.1 hy
  exact ok_kind (h.ok j hj)
theorem ok_new {x : Err} (h : x.ok = true) (hk : ¬(x.kind = 0 ∨ x.kind = 1)) : 1 ≤ x.new ∧ x.new ≤ 999 := by
  unfold Err.ok at h
  rw [Bool.and_eq_true] at h
  have h2 := h.2
  rw [if_neg (by omega), if_neg (by omega)] at h2
  split at h2
  · simp only [Bool.and_eq_true] at h2
    exact anchorB_in h2.2
  · cases h2
theorem news_mem {x : Vol} {er : List Err} (h : EOk x er) {a : Int} (ha : a ∈ news er) : ∃ y ∈ er, y.kind = 2 ∧ y.new = a := by
  unfold news at ha
  obtain ⟨y, hy, rfl⟩ := List.mem_map.1 ha
  obtain ⟨h1, h2⟩ := List.mem_filter.1 hy
  have hk := ok_kinds h h1
  simp at h2
  exact ⟨y, h1, by omega, rfl⟩
theorem news_nodup {x : Vol} {er : List Err} (h : EOk x er) : (news er).Nodup := by
  have hp : er.Pairwise fun a b => ¬ (a.kind = 2 ∧ b.kind = 2 ∧ b.new = a.new) := by
    rw [List.pairwise_iff_getElem]
    intro i j hi hj hij
    exact (h.apart i hi j hj (by omega)).2
  unfold news List.Nodup
  rw [List.pairwise_map]
  refine (hp.filter _).imp_of_mem ?_
  intro a b ha hb hab e
  obtain ⟨a1, a2⟩ := List.mem_filter.1 ha
  obtain ⟨b1, b2⟩ := List.mem_filter.1 hb
  have ka := ok_kinds h a1
  have kb := ok_kinds h b1
  simp at a2 b2
  exact hab ⟨by omega, by omega, e.symm⟩
theorem fr_start {x : Vol} {er : List Err} (h0 : checkVol x = 0) (h : EOk x er) : Fr (rows0 x.parts).flatten (sortE er) := by
  have hp : (news (sortE er)).Perm (news er) := ((sortE_spec er).1.filter _).map _
  refine ⟨by rw [rows0_ancs]; exact checkVol_nodup h0, hp.nodup_iff.2 (news_nodup h), fun a ha hm => ?_⟩
  obtain ⟨y, hy, hk, rfl⟩ := news_mem h (hp.mem_iff.1 ha)
  rw [rows0_ancs] at hm
  obtain ⟨i, hi, rfl⟩ := List.mem_iff_getElem.1 hy
  obtain ⟨p, hp, he⟩ := List.mem_map.1 hm
  obtain ⟨k, hk', rfl⟩ := List.mem_iff_getElem.1 hp
  exact h.fresh i hi k hk' ⟨hk, he⟩
theorem takeWhile_mono {α : Type} (p q : α → Bool) (l : List α) (h : ∀ x, p x = true → q x = true) : l.takeWhile p <+: l.takeWhile q := by
  induction l with
  | nil => exact List.prefix_refl _
  | cons x l ih =>
    cases hp : p x
    · rw [List.takeWhile_cons_of_neg (by simp [hp])]; exact List.nil_prefix
    · rw [List.takeWhile_cons_of_pos hp, List.takeWhile_cons_of_pos (h x hp)]
      exact (List.prefix_cons_inj x).2 ih
theorem issued_grow (er : List Err) {d d' : Int} (h : d ≤ d') : ∃ m, issuedL er d' = issuedL er d ++ m := by
  obtain ⟨m, hm⟩ := takeWhile_mono (fun x : Err => !(decide (d < x.day))) (fun x : Err => !(decide (d' < x.day))) (sortE er) (fun x hx => by simp at hx ⊢; omega)
  exact ⟨m, hm.symm⟩
theorem issued_part (er : List Err) (d : Int) : ∃ m, sortE er = issuedL er d ++ m := by
  obtain ⟨m, hm⟩ := List.takeWhile_prefix (fun x : Err => !(decide (d < x.day))) (l := sortE er)
  exact ⟨m, hm.symm⟩
theorem after_fr {x : Vol} {er : List Err} (h0 : checkVol x = 0) (h : EOk x er) (d : Int) : ∃ m, Fr (afterR x er d).flatten m := by
  obtain ⟨m, hm⟩ := issued_part er d
  have := fr_start h0 h
  rw [hm] at this
  exact ⟨m, fold_fr _ _ _ this⟩
theorem after_nodup {x : Vol} {er : List Err} (h0 : checkVol x = 0) (h : EOk x er) (d : Int) : ((afterR x er d).flatten.map (·.anchor)).Nodup := by
  obtain ⟨m, hm⟩ := after_fr h0 h d
  exact hm.1
theorem look_keep {x : Vol} {er : List Err} (h0 : checkVol x = 0) (h : EOk x er) (a : Int) {d d' : Int} (hd : d ≤ d') (e : Entry) (hl : look (afterR x er d) a = some e) :
    ∃ e', look (afterR x er d') a = some e' ∧ (e.gone = true → e' = e) := by
  obtain ⟨m, hm⟩ := issued_grow er hd
  obtain ⟨m', hm'⟩ := issued_part er d'
  have hf := fr_start h0 h
  rw [hm', hm, List.append_assoc] at hf
  have h2 := fold_keep m m' (afterR x er d) (fold_fr _ _ _ hf) a e hl
  have e1 : afterR x er d' = m.foldl stepE (afterR x er d) := by unfold afterR; rw [hm, List.foldl_append]
  rw [e1]; exact h2
def lookF (o : Option Entry) : ByteArray × Bool × Int := match o with
  | none => (⟨#[]⟩, false, 7)
  | some e => (e.text, e.gone, 0)
theorem day_in {d : Int} (h1 : 0 ≤ d) (h2 : d ≤ 99999) : dayB d = true := by unfold dayB withinB; simp; omega
theorem read_ok {x : Vol} {er : List Err} (h0 : checkVol x = 0) (h : EOk x er) {d : Int} (h1 : 0 ≤ d) (h2 : d ≤ 99999) : readE x er d = 0 := by
  unfold readE; simp [check_of h0 h, day_in h1 h2]
theorem findR_look (rows : List (List Entry)) (a : Int) : findR rows a = lookF (look rows a) := by
  rw [look_locate]
  unfold findR
  cases locate a rows with
  | none => rfl
  | some p => rfl
theorem find_look {x : Vol} {er : List Err} (h0 : checkVol x = 0) (h : EOk x er) (a : Int) {d : Int} (h1 : 0 ≤ d) (h2 : d ≤ 99999) : findE x er a d = lookF (look (afterR x er d) a) := by
  unfold findE
  rw [if_neg (by rw [read_ok h0 h h1 h2]; decide), findR_look]
/-- what is found after a day is found after each later one; what is gone stays as it is -/
theorem lives_law {x : Vol} {er : List Err} (h0 : checkVol x = 0) (h : EOk x er) (a : Int) {d d' : Int} (h1 : 0 ≤ d) (h2 : d ≤ d') (h3 : d' ≤ 99999) :
    ((findE x er a d).2.2 = 0 ∧ (findE x er a d').2.2 = 0 ∧ ((findE x er a d).2.1 = true → (findE x er a d').2.1 = true ∧ (findE x er a d).1 = (findE x er a d').1)) ∨
    ((findE x er a d).2.2 = 7 ∧ (findE x er a d).2.1 = false ∧ (findE x er a d).1 = ⟨#[]⟩ ∧ ((findE x er a d').2.2 = 0 ∨ (findE x er a d').2.2 = 7)) := by
  rw [find_look h0 h a h1 (by omega), find_look h0 h a (d := d') (by omega) h3]
  cases hl : look (afterR x er d) a with
  | none =>
    right
    refine ⟨rfl, rfl, rfl, ?_⟩
    cases look (afterR x er d') a with
    | none => exact .inr rfl
    | some e => exact .inl rfl
  | some e =>
    left
    obtain ⟨e', h4, h5⟩ := look_keep h0 h a h2 e hl
    rw [h4]
    refine ⟨rfl, rfl, fun hg => ?_⟩
    have := h5 hg
    subst this
    exact ⟨hg, rfl⟩
theorem readP_mem {rows : List (List Entry)} {p : Para} : p ∈ readP rows ↔ ∃ e ∈ rows.flatten, e.gone = false ∧ p = ⟨e.anchor, e.text⟩ := by
  unfold readP keptP
  simp only [List.mem_flatMap, List.mem_map, List.mem_filter, List.mem_flatten]
  constructor
  · rintro ⟨r, hr, e, ⟨he, hg⟩, rfl⟩
    exact ⟨e, ⟨r, hr, he⟩, by simpa using hg, rfl⟩
  · rintro ⟨e, ⟨r, hr, he⟩, hg, rfl⟩
    exact ⟨r, hr, e, ⟨he, by simp [hg]⟩, rfl⟩
theorem look_mem {rows : List (List Entry)} (hn : (rows.flatten.map (·.anchor)).Nodup) {e : Entry} (he : e ∈ rows.flatten) : look rows e.anchor = some e := find_of_mem hn he
/-- the text of what is read is what is found -/
theorem words_law {x : Vol} {er : List Err} (h0 : checkVol x = 0) (h : EOk x er) {d : Int} (h1 : 0 ≤ d) (h2 : d ≤ 99999) :
    readE x er d = 0 ∧ (∀ p ∈ readL x er d, findE x er p.anchor d = (p.text, false, 0)) ∧
      ∀ a, (∃ p ∈ readL x er d, p.anchor = a) ↔ ((findE x er a d).2.2 = 0 ∧ (findE x er a d).2.1 = false) := by
  have hr := read_ok h0 h h1 h2
  have hn := after_nodup h0 h d
  have hL : readL x er d = readP (afterR x er d) := by unfold readL; rw [if_pos hr]
  refine ⟨hr, fun p hp => ?_, fun a => ?_⟩
  · rw [hL, readP_mem] at hp
    obtain ⟨e, he, hg, rfl⟩ := hp
    rw [find_look h0 h _ h1 h2]
    dsimp only
    rw [look_mem hn he]
    simp [lookF, hg]
  · rw [find_look h0 h _ h1 h2, hL]
    constructor
    · rintro ⟨p, hp, rfl⟩
      rw [readP_mem] at hp
      obtain ⟨e, he, hg, rfl⟩ := hp
      dsimp only
      rw [look_mem hn he]
      exact ⟨rfl, hg⟩
    · rintro ⟨e1, e2⟩
      cases hl : look (afterR x er d) a with
      | none => rw [hl] at e1; simp [lookF] at e1
      | some e =>
        rw [hl] at e2
        obtain ⟨m1, m2⟩ := mem_of_find (F := (afterR x er d).flatten) hl
        exact ⟨⟨e.anchor, e.text⟩, readP_mem.2 ⟨e, m1, e2, rfl⟩, m2⟩
theorem fold_empty (l : List Err) (rows : List (List Entry)) (h : rows.flatten = []) : (l.foldl stepE rows).flatten = [] := by
  induction l generalizing rows with
  | nil => exact h
  | cons x l ih =>
    refine ih (stepE rows x) ?_
    rcases stepTo rows x with ⟨-, g⟩ | ⟨A, e, B, g, -⟩
    · rw [g]; exact h
    · rw [h] at g; simp at g
theorem read_empty (x : Vol) (er : List Err) (d : Int) (h : x.paras.length = 0) : readL x er d = [] := by
  unfold readL
  split
  · have hf : (afterR x er d).flatten = [] := by
      unfold afterR
      refine fold_empty _ _ ?_
      rw [rows0_flat]
      have : x.parts.flatMap (·.paras) = [] := List.eq_nil_of_length_eq_zero h
      rw [this]; rfl
    cases hq : readP (afterR x er d) with
    | nil => rfl
    | cons p l =>
      have : p ∈ readP (afterR x er d) := by rw [hq]; exact List.mem_cons_self ..
      rw [readP_mem, hf] at this
      obtain ⟨e, he, -⟩ := this
      simp at he
  · rfl
end Go.Proofs.YtjkmdpejcgepkaaGreatDoor
