/- Plain laws: errata in another order; merging. -/
import Derived.Test.YtjkmdpejcgepkaaGreatDoorG1
import Derived.Test.YtjkmdpejcgepkaaGreatDoorJ2
import Derived.Test.YtjkmdpejcgepkaaGreatDoorF1
namespace Go.Proofs.YtjkmdpejcgepkaaGreatDoor
open Go.RowKit
def apartR (a b : Err) : Prop := b.number ≠ a.number ∧ ¬ (a.kind = 2 ∧ b.kind = 2 ∧ b.new = a.new)
theorem apartR_symm {a b : Err} (h : apartR a b) : apartR b a := ⟨fun e => h.1 e.symm, fun ⟨h1, h2, h3⟩ => h.2 ⟨h2, h1, h3.symm⟩⟩
theorem EOk.pairs {x : Vol} {l : List Err} (h : EOk x l) : l.Pairwise apartR := by
  rw [List.pairwise_iff_getElem]
  intro i j hi hj hij
  exact h.apart i hi j hj (by omega)
theorem EOk.perm {x : Vol} {l t : List Err} (h : EOk x l) (hp : t.Perm l) : EOk x t := by
  have hpw : t.Pairwise apartR := (hp.pairwise_iff (fun h => apartR_symm h)).2 h.pairs
  have hm : ∀ {y}, y ∈ t → ∃ i, ∃ hi : i < l.length, l[i] = y := fun hy => List.mem_iff_getElem.1 (hp.mem_iff.1 hy)
  refine ⟨by rw [hp.length_eq]; exact h.few, fun j hj => ?_, fun i hi k hk hne => ?_, fun i hi k hk => ?_, fun i hi => ?_⟩
  · obtain ⟨m, hm, e⟩ := hm (List.getElem_mem hj)
    rw [← e]; exact h.ok m hm
  · rw [List.pairwise_iff_getElem] at hpw
    rcases Nat.lt_or_gt_of_ne hne with hlt | hlt
    · exact apartR_symm (hpw k i hk hi hlt)
    · exact hpw i k hi hk hlt
  · obtain ⟨m, hm, e⟩ := hm (List.getElem_mem hi)
    rw [← e]; exact h.fresh m hm k hk
  · obtain ⟨m, hm, e⟩ := hm (List.getElem_mem hi)
    rw [← e]
    rcases h.there m hm with h1 | ⟨k, hk, h2⟩
    · exact .inl h1
    · right
      obtain ⟨n, hn, e2⟩ := List.mem_iff_getElem.1 (hp.mem_iff.2 (List.getElem_mem hk))
      exact ⟨n, hn, by rw [e2]; exact h2⟩
theorem read_perm {x : Vol} {l t : List Err} (h0 : checkVol x = 0) (h : EOk x l) (hp : t.Perm l) {d : Int} (h1 : 0 ≤ d) (h2 : d ≤ 99999) : readE x l d = 0 ∧ readE x t d = 0 ∧ readL x t d = readL x l d := by
  have e1 := read_ok h0 h h1 h2
  have e2 := read_ok h0 (h.perm hp) h1 h2
  refine ⟨e1, e2, ?_⟩
  unfold readL afterR
  rw [if_pos e1, if_pos e2, issued_eq h d (hp.symm.filter _)]
theorem places_perm {x : Vol} {l t : List Err} (h0 : checkVol x = 0) (h : EOk x l) (hp : t.Perm l) : checkE x l = 0 ∧ checkE x t = 0 ∧ placesL x t = placesL x l := by
  have e1 := check_of h0 h
  have e2 := check_of h0 (h.perm hp)
  refine ⟨e1, e2, ?_⟩
  unfold placesL printV afterR
  rw [if_pos e1, if_pos e2, issued_eq h _ (hp.symm.filter _)]
theorem errEq_self (y : Err) : errEq y y = true := by unfold errEq; simp
theorem mergeS_ok {er : List Err} (hinj : ∀ a ∈ er, ∀ b ∈ er, a.number = b.number → a = b) (r acc : List Err) (hr : ∀ y ∈ r, y ∈ er) (ha : ∀ y ∈ acc, y ∈ er) (hn : acc.Nodup) :
    ∃ s, mergeS acc r = some s ∧ s.Nodup ∧ (∀ y, y ∈ s ↔ y ∈ acc ∨ y ∈ r) := by
  induction r generalizing acc with
  | nil => exact ⟨acc, rfl, hn, fun y => by simp⟩
  | cons x r ih =>
    have hx := hr x (List.mem_cons_self ..)
    have hr' : ∀ y ∈ r, y ∈ er := fun y hy => hr y (List.mem_cons_of_mem _ hy)
    rw [mergeS]
    cases hb : byNum acc x.number with
    | none =>
      dsimp only
      have hxa : x ∉ acc := fun hm => by
        unfold byNum at hb
        rw [List.find?_eq_none] at hb
        exact hb x hm (by simp)
      obtain ⟨s, h1, h2, h3⟩ := ih (acc ++ [x]) hr' (fun y hy => by
        rcases List.mem_append.1 hy with hy | hy
        · exact ha y hy
        · rw [List.mem_singleton] at hy; rw [hy]; exact hx) (by
        rw [List.nodup_append]
        refine ⟨hn, by simp, fun a ha b hb e => ?_⟩
        rw [List.mem_singleton] at hb
        exact hxa (by rw [← hb, ← e]; exact ha))
      exact ⟨s, h1, h2, fun y => by rw [h3]; simp [or_assoc]⟩
    | some z =>
      obtain ⟨hz, hzn⟩ := byNum_some hb
      obtain rfl := hinj x hx z (ha z hz) hzn.symm
      dsimp only
      rw [if_pos (errEq_self x)]
      obtain ⟨s, h1, h2, h3⟩ := ih acc hr' ha hn
      refine ⟨s, h1, h2, fun y => ?_⟩
      rw [h3, List.mem_cons]
      constructor
      · rintro (h | h)
        · exact .inl h
        · exact .inr (.inr h)
      · rintro (h | rfl | h)
        · exact .inl h
        · exact .inl hz
        · exact .inr h
theorem EOk.nodup {x : Vol} {l : List Err} (h : EOk x l) : l.Nodup := by
  unfold List.Nodup
  exact h.pairs.imp fun {a b} hab e => hab.1 (by rw [e])
theorem sorted_eq {x : Vol} {er : List Err} (h : EOk x er) {xs : List Err} (hp : xs.Perm er) (hs : xs.Pairwise fun a b => ¬ ltE b a) : xs = sortE er := by
  refine List.Perm.eq_of_pairwise (le := fun a b => ¬ ltE b a) ?_ hs (sortE_sorted er) (hp.trans (sortE_spec er).1.symm)
  intro a b ha hb h1 h2
  refine number_inj h (hp.mem_iff.1 ha) ((sortE_spec er).1.mem_iff.1 hb) ?_
  unfold ltE at h1 h2
  omega
theorem merge_all {x : Vol} {er : List Err} (h : EOk x er) {l : List Err} (hl : ∀ y, y ∈ l ↔ y ∈ er) : mergeV l = (sortE er, 0) := by
  obtain ⟨s, h1, h2, h3⟩ := mergeS_ok (er := er) (fun a ha b hb => number_inj h ha hb) l [] (fun y hy => (hl y).1 hy) (by simp) List.nodup_nil
  have hp : s.Perm er := (List.perm_ext_iff_of_nodup h2 h.nodup).2 fun y => by rw [h3]; simp [hl y]
  unfold mergeV
  rw [h1]
  dsimp only
  rw [sorted_eq h ((sortE_spec s).1.trans hp) (sortE_sorted s)]
theorem rsorted_eq {x : Vol} {er : List Err} (h : EOk x er) {xs : List Err} (hp : xs.Perm er) (hs : xs.Pairwise fun a b => lessB b a = false) : xs = sortE er :=
  sorted_eq h hp (hs.imp fun {a b} hab hlt => by unfold lessB at hab; unfold ltE at hlt; simp only [decide_eq_false_iff_not] at hab; exact hab hlt)
theorem mem_cut {er : List Err} {i k : Nat} (hik : i ≤ k) (y : Err) : y ∈ er.take k ++ er.drop i ↔ y ∈ er := by
  rw [List.mem_append]
  constructor
  · rintro (h | h)
    · exact List.mem_of_mem_take h
    · exact List.mem_of_mem_drop h
  · intro h
    rw [← List.take_append_drop k er, List.mem_append] at h
    rcases h with h | h
    · exact .inl h
    · right
      have e : er.drop k = (er.drop i).drop (k - i) := by rw [List.drop_drop]; congr 1; omega
      rw [e] at h
      exact List.mem_of_mem_drop h
theorem merge_to (va vb : Value) (la lb : List Err) (s : List Err) (w : World) (ha : RdE w va la) (hb : RdE w vb lb) (hla : la.length ≤ 100000) (hlb : lb.length ≤ 100000) (hk : ∀ y ∈ la ++ lb, inI64 y.number) (hm : mergeV (la ++ lb) = (s, 0)) :
    Calls Tryz.prog 26 #[va, vb] w fun e w' => ∃ v, e = .returned (.tuple #[v, .int .i64 0]) ∧ Own EE 77 w' w.heap.size v s ∧ Below w.heap.size w w' := by
  have h := merge_any va vb la lb w ha hb hla hlb hk
  unfold MergePost at h
  rw [hm] at h
  exact h
theorem num_in {x : Vol} {er : List Err} (h : EOk x er) {l : List Err} (hl : ∀ y ∈ l, y ∈ er) : ∀ y ∈ l, inI64 y.number := fun y hy => by
  obtain ⟨j, hj, rfl⟩ := List.mem_iff_getElem.1 (hl y hy)
  exact (err_keyed (h.ok j hj)).2
end Go.Proofs.YtjkmdpejcgepkaaGreatDoor
