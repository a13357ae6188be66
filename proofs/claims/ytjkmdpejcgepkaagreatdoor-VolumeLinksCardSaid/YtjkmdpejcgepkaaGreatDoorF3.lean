/- Plain laws of the reference's reading. -/
import Derived.Test.YtjkmdpejcgepkaaGreatDoorF2
import Derived.Test.YtjkmdpejcgepkaaGreatDoorG1
namespace Go.Proofs.YtjkmdpejcgepkaaGreatDoor
open Go.RowKit
theorem oneA_anchor {y : Err} {e f : AE} (h : f ∈ oneA y e) : f.anchor = e.anchor ∨ (y.kind = 2 ∧ f.anchor = y.new) := by
  unfold oneA at h
  split at h
  · split at h
    · simp only [List.mem_singleton] at h
      subst h
      left
      split <;> rfl
    · split at h
      · simp only [List.mem_singleton] at h
        subst h
        exact .inl rfl
      · split at h
        · rename_i hk
          rcases List.mem_cons.1 h with rfl | h
          · exact .inl rfl
          · simp only [List.mem_singleton] at h
            subst h
            exact .inr ⟨by simpa using hk, rfl⟩
        · simp only [List.mem_singleton] at h
          subst h
          exact .inl rfl
  · simp only [List.mem_singleton] at h
    subst h
    exact .inl rfl
theorem foldA_anchors (p : Int → Prop) (l : List Err) (L : List AE) (hl : ∀ y ∈ l, y.kind = 2 → p y.new) (hL : ∀ e ∈ L, p e.anchor) : ∀ e ∈ l.foldl stepA L, p e.anchor := by
  induction l generalizing L with
  | nil => exact hL
  | cons y l ih =>
    refine ih (stepA L y) (fun z hz => hl z (List.mem_cons_of_mem _ hz)) fun f hf => ?_
    unfold stepA at hf
    obtain ⟨e, he, hf⟩ := List.mem_flatMap.1 hf
    rcases oneA_anchor hf with h | ⟨h1, h2⟩
    · rw [h]; exact hL e he
    · rw [h2]; exact hl y (List.mem_cons_self ..) h1
theorem initTo_mem {ps : List Part} {k : Nat} {e : AE} (h : e ∈ initTo ps k) : ∃ i q, i < k ∧ q ∈ (ps.getD i default).paras ∧ e = ⟨q.anchor, q.text, i, false⟩ := by
  unfold initTo at h
  obtain ⟨i, hi, h⟩ := List.mem_flatMap.1 h
  unfold tagL at h
  obtain ⟨q, hq, rfl⟩ := List.mem_map.1 h
  exact ⟨i, q, by simpa using hi, hq, rfl⟩
theorem after_anchor {x : Vol} {er : List Err} (h0 : checkVol x = 0) (h : EOk x er) {to : Int} {L : List AE} (hL : AfterIs x er to L) : ∀ e ∈ L, 1 ≤ e.anchor ∧ e.anchor ≤ 999 := by
  obtain ⟨xs, ⟨hp, -⟩, rfl⟩ := hL
  refine foldA_anchors (fun a => 1 ≤ a ∧ a ≤ 999) _ _ (fun y hy hk => ?_) fun e he => ?_
  · have hy' : y ∈ er := hp.mem_iff.1 ((List.takeWhile_sublist _).subset hy)
    obtain ⟨j, hj, rfl⟩ := List.mem_iff_getElem.1 hy'
    exact ok_new (h.ok j hj) (by omega)
  · obtain ⟨i, q, hi, hq, rfl⟩ := initTo_mem he
    have hi' : i < x.parts.length := hi
    have e1 : x.parts.getD i default = x.parts[i] := by simp [List.getD_eq_getElem?_getD, hi']
    rw [e1] at hq
    exact valid_paras (checkVol_valid h0) q (List.mem_flatMap.2 ⟨_, List.getElem_mem hi', hq⟩)
end Go.Proofs.YtjkmdpejcgepkaaGreatDoor
