/- Plain laws: what the guards let in is valid. -/
import Derived.Test.YtjkmdpejcgepkaaGreatDoorD0
import Derived.Test.YtjkmdpejcgepkaaGreatDoorE6
namespace Go.Proofs.YtjkmdpejcgepkaaGreatDoor
open Go.RowKit
theorem accOf_mem (acc : List Int) (l : List Err) (a : Int) : a ∈ accOf acc l ↔ a ∈ acc ∨ ∃ y ∈ l, y.kind = 2 ∧ y.new = a := by
  induction l generalizing acc with
  | nil => simp [accOf]
  | cons x l ih =>
    show a ∈ accOf (if x.kind = 2 then x.new :: acc else acc) l ↔ _
    rw [ih]
    by_cases h : x.kind = 2
    · rw [if_pos h]
      simp only [List.mem_cons]
      constructor
      · rintro ((rfl | h1) | ⟨y, hy, h2⟩)
        · exact .inr ⟨x, .inl rfl, h, rfl⟩
        · exact .inl h1
        · exact .inr ⟨y, .inr hy, h2⟩
      · rintro (h1 | ⟨y, rfl | hy, h2⟩)
        · exact .inl (.inr h1)
        · exact .inl (.inl h2.2.symm)
        · exact .inr ⟨y, hy, h2⟩
    · rw [if_neg h]
      simp only [List.mem_cons]
      constructor
      · rintro (h1 | ⟨y, hy, h2⟩)
        · exact .inl h1
        · exact .inr ⟨y, .inr hy, h2⟩
      · rintro (h1 | ⟨y, rfl | hy, h2⟩)
        · exact .inl h1
        · exact absurd h2.1 h
        · exact .inr ⟨y, hy, h2⟩
theorem anch_of (acc : List Int) (s : List Err) (h : ∀ a x b, s = a ++ x :: b → x.anchor ∈ accOf acc a) : anch acc s = true := by
  induction s generalizing acc with
  | nil => rfl
  | cons y t ih =>
    rw [anch, Bool.and_eq_true]
    refine ⟨by simpa [accOf] using h [] y t rfl, ih _ fun a x b e => ?_⟩
    have := h (y :: a) x b (by rw [e]; rfl)
    exact this
theorem fresh_of (th nu : List Int) (l : List Err) (h1 : l.Pairwise fun a b => b.number ≠ a.number ∧ ¬ (a.kind = 2 ∧ b.kind = 2 ∧ b.new = a.new)) (h2 : ∀ y ∈ l, y.number ∉ nu) (h3 : ∀ y ∈ l, y.kind = 2 → y.new ∉ th) : fresh th nu l = true := by
  induction l generalizing th nu with
  | nil => rfl
  | cons x l ih =>
    rw [List.pairwise_cons] at h1
    rw [fresh, Bool.and_eq_true]
    refine ⟨?_, ih _ _ h1.2 (fun y hy => ?_) (fun y hy hk => ?_)⟩
    · have a1 := h2 x (List.mem_cons_self ..)
      have a2 := h3 x (List.mem_cons_self ..)
      by_cases hk : x.kind = 2
      · simp [a1, hk, a2 hk]
      · simp [a1, hk]
    · rw [List.mem_cons, not_or]
      exact ⟨(h1.1 y hy).1, h2 y (List.mem_cons_of_mem _ hy)⟩
    · by_cases hx : x.kind = 2
      · rw [if_pos hx, List.mem_cons, not_or]
        exact ⟨fun e => (h1.1 y hy).2 ⟨hx, hk, e⟩, h3 y (List.mem_cons_of_mem _ hy) hk⟩
      · rw [if_neg hx]
        exact h3 y (List.mem_cons_of_mem _ hy) hk
/-- the order of errata -/
def ltE (a b : Err) : Prop := a.day < b.day ∨ a.day = b.day ∧ a.number < b.number
instance (a b : Err) : Decidable (ltE a b) := by unfold ltE; infer_instance
theorem ltOf_ltE (a b : Err) : Go.Proofs.ltOf befI a b = decide (ltE a b) := befI_lt a b
theorem sortE_sorted (l : List Err) : (sortE l).Pairwise fun a b => ¬ ltE b a := by
  obtain ⟨_, h2, h3⟩ := sortE_spec l
  rw [List.pairwise_iff_getElem]
  intro i j hi hj hij
  have := h3 i j (Nat.zero_le _) hij (by omega)
  rw [ltOf_ltE] at this
  simp only [decide_eq_false_iff_not] at this
  rw [getElem!_pos (sortE l).toArray j (by simpa using hj), getElem!_pos (sortE l).toArray i (by simpa using hi)] at this
  simpa using this
theorem issued_all (l : List Err) (h : ∀ y ∈ l, y.day ≤ 99999) : issuedL l 99999 = sortE l := by
  unfold issuedL
  refine takeWhile_all _ _ fun j hj => ?_
  have := h _ ((sortE_spec l).1.mem_iff.1 (List.getElem_mem hj))
  simp; omega
theorem ok_day {x : Err} (h : x.ok = true) : 0 ≤ x.day ∧ x.day ≤ 99999 := by
  unfold Err.ok at h
  simp only [Bool.and_eq_true] at h
  have := h.1.1.2
  unfold dayB withinB at this
  simpa using this
theorem check_of {x : Vol} {er : List Err} (h0 : checkVol x = 0) (h : EOk x er) : checkE x er = 0 := by
  have hok : er.all Err.ok = true := by
    rw [List.all_eq_true]
    intro y hy
    obtain ⟨j, hj, rfl⟩ := List.mem_iff_getElem.1 hy
    exact h.ok j hj
  have hfr : fresh (ancs x.paras).reverse [] er = true := by
    refine fresh_of _ _ _ ?_ (fun y _ => by simp) (fun y hy hk => ?_)
    · rw [List.pairwise_iff_getElem]
      intro i j hi hj hij
      exact h.apart i hi j hj (by omega)
    · obtain ⟨j, hj, rfl⟩ := List.mem_iff_getElem.1 hy
      rw [List.mem_reverse]
      unfold ancs
      intro hm
      obtain ⟨p, hp, he⟩ := List.mem_map.1 hm
      obtain ⟨k, hk', rfl⟩ := List.mem_iff_getElem.1 hp
      exact h.fresh j hj k hk' ⟨hk, he⟩
  have han : anch (ancs x.paras).reverse (issuedL er 99999) = true := by
    rw [issued_all er fun y hy => (ok_day (List.all_eq_true.1 hok y hy)).2]
    refine anch_of _ _ fun a y b hs => ?_
    rw [accOf_mem, List.mem_reverse]
    have hy : y ∈ er := (sortE_spec er).1.mem_iff.1 (by rw [hs]; simp)
    obtain ⟨i, hi, rfl⟩ := List.mem_iff_getElem.1 hy
    rcases h.there i hi with ⟨k, hk, he⟩ | ⟨k, hk, h1, h2, h3⟩
    · exact .inl (by unfold ancs; exact List.mem_map.2 ⟨_, List.getElem_mem hk, he⟩)
    · right
      refine ⟨er[k], ?_, h1, h2⟩
      have hm : er[k] ∈ sortE er := (sortE_spec er).1.mem_iff.2 (List.getElem_mem hk)
      have hlt : ltE er[k] er[i] := by unfold lessB at h3; unfold ltE; simpa using h3
      have hsd := sortE_sorted er
      rw [hs] at hm hsd
      rcases List.mem_append.1 hm with hm | hm
      · exact hm
      · exfalso
        rw [List.pairwise_append] at hsd
        rcases List.mem_cons.1 hm with e | hm
        · rw [e] at hlt; unfold ltE at hlt; omega
        · exact (List.pairwise_cons.1 hsd.2.1).1 _ hm hlt
  unfold checkE
  rw [if_neg (by rw [h0]; decide), if_neg (by have := h.few; omega), if_neg (by rw [hok]; decide), if_neg (by rw [hfr]; decide)]
  unfold anchored
  rw [if_pos han]
end Go.Proofs.YtjkmdpejcgepkaaGreatDoor
/- Plain laws: errata of a later day. -/
namespace Go.Proofs.YtjkmdpejcgepkaaGreatDoor
open Go.RowKit
theorem number_inj {x : Vol} {er : List Err} (h : EOk x er) {a b : Err} (ha : a ∈ er) (hb : b ∈ er) (hn : a.number = b.number) : a = b := by
  obtain ⟨i, hi, rfl⟩ := List.mem_iff_getElem.1 ha
  obtain ⟨k, hk, rfl⟩ := List.mem_iff_getElem.1 hb
  by_cases e : k = i
  · subst e; rfl
  · exact absurd hn.symm (h.apart i hi k hk e).1
theorem takeWhile_filter {α : Type} (p : α → Bool) (l : List α) (h : l.Pairwise fun a b => p b = true → p a = true) : l.takeWhile p = l.filter p := by
  induction l with
  | nil => rfl
  | cons x l ih =>
    rw [List.pairwise_cons] at h
    by_cases hx : p x = true
    · rw [List.takeWhile_cons_of_pos hx, List.filter_cons_of_pos hx, ih h.2]
    · rw [List.takeWhile_cons_of_neg hx, List.filter_cons_of_neg hx]
      symm
      rw [List.filter_eq_nil_iff]
      exact fun b hb hpb => hx (h.1 b hb hpb)
def dueB (d : Int) (y : Err) : Bool := !(decide (d < y.day))
theorem issued_filter (l : List Err) (d : Int) : issuedL l d = (sortE l).filter (dueB d) := by
  unfold issuedL
  refine takeWhile_filter _ _ ((sortE_sorted l).imp fun {a b} hab hb => ?_)
  unfold ltE at hab
  simp only [Bool.not_eq_true', decide_eq_false_iff_not] at hb ⊢
  omega
theorem issued_eq {x : Vol} {l l' : List Err} (h : EOk x l) (d : Int) (hp : (l.filter (dueB d)).Perm (l'.filter (dueB d))) : issuedL l d = issuedL l' d := by
  rw [issued_filter, issued_filter]
  have q1 : ((sortE l).filter (dueB d)).Perm (l.filter (dueB d)) := (sortE_spec l).1.filter _
  have q2 : ((sortE l').filter (dueB d)).Perm (l'.filter (dueB d)) := (sortE_spec l').1.filter _
  have q3 : ((sortE l).filter (dueB d)).Perm ((sortE l').filter (dueB d)) := q1.trans (hp.trans q2.symm)
  refine List.Perm.eq_of_pairwise (le := fun a b => ¬ ltE b a) ?_ ((sortE_sorted l).filter _) ((sortE_sorted l').filter _) q3
  intro a b ha hb h1 h2
  have ha' : a ∈ l := (List.mem_filter.1 (q1.mem_iff.1 ha)).1
  have hb' : b ∈ l := (List.mem_filter.1 (hp.symm.mem_iff.1 (q2.mem_iff.1 hb))).1
  refine number_inj h ha' hb' ?_
  unfold ltE at h1 h2
  omega
theorem issued_more {x : Vol} {er : List Err} {more : Err} (h : EOk x er) (d : Int) (hd : d < more.day) : issuedL er d = issuedL (er ++ [more]) d := by
  refine issued_eq h d ?_
  rw [List.filter_append, List.filter_cons_of_neg (by simp [dueB]; exact hd), List.filter_nil, List.append_nil]
theorem read_more {x : Vol} {er : List Err} {more : Err} (h0 : checkVol x = 0) (h1 : EOk x er) (h2 : EOk x (er ++ [more])) (d : Int) (hd : d < more.day) (hd1 : 0 ≤ d) (hd2 : d ≤ 99999) :
    readE x er d = 0 ∧ readE x (er ++ [more]) d = 0 ∧ readL x (er ++ [more]) d = readL x er d := by
  have c1 := check_of h0 h1
  have c2 := check_of h0 h2
  have hday : dayB d = true := by unfold dayB withinB; simp; omega
  have e1 : readE x er d = 0 := by unfold readE; simp [c1, hday]
  have e2 : readE x (er ++ [more]) d = 0 := by unfold readE; simp [c2, hday]
  refine ⟨e1, e2, ?_⟩
  unfold readL afterR
  rw [if_pos e1, if_pos e2, issued_more h1 d hd]
theorem places_more {x : Vol} {er : List Err} {more : Err} (h0 : checkVol x = 0) (h1 : EOk x er) (h2 : EOk x (er ++ [more])) (hd : x.bound < more.day) :
    checkE x er = 0 ∧ checkE x (er ++ [more]) = 0 ∧ placesL x (er ++ [more]) = placesL x er := by
  have c1 := check_of h0 h1
  have c2 := check_of h0 h2
  refine ⟨c1, c2, ?_⟩
  unfold placesL printV afterR
  rw [if_pos c1, if_pos c2, issued_more h1 _ hd]
end Go.Proofs.YtjkmdpejcgepkaaGreatDoor
