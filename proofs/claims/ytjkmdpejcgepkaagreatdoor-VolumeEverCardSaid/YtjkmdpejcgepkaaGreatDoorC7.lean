/- slices.Clone and slices.SortFunc at errata. -/
import Derived.Test.YtjkmdpejcgepkaaGreatDoorC6
import Derived.Test.YtjkmdpejcgepkaaGreatDoorS1
import Derived.WalkSpells
namespace Go.Proofs.YtjkmdpejcgepkaaGreatDoor
open Go.RowKit
theorem Tryz.infoErr : (Tryz.prog.info? 77).map (fun i => (i.zero, i.size, i.bytes)) = some (some (.agg #[.int .i64 0, .int .i64 0, .int .u8 0, .int .i64 0, .string ⟨#[]⟩, .int .i64 0]), 6, 56) := by kernel_rfl
def OwnPost {α : Type} (E : Enc α) (t : TypeId) (w : World) (xs : List α) (e : Ending) (w' : World) : Prop := ∃ v, e = .returned v ∧ Own E t w' w.heap.size v xs ∧ Below w.heap.size w w'
theorem Own.empty_lit {α : Type} (E : Enc α) (t : TypeId) (w : World) (base : Nat) (h : base ≤ w.heap.size) : Own E t (w.alloc (.cells #[] t)) base (.slice (some ⟨w.heap.size, 0, none⟩) 0 0) [] :=
  ⟨by simp [flat], .inr ⟨w.heap.size, 0, #[], rfl, h, heap_alloc_new w _, by simp, by simp [maxLen], by simp, by simp [flat]⟩⟩
set_option maxRecDepth 100000 in
theorem clone_any (v : Value) (xs : List Err) (w : World) (hv : RdE w v xs) (hl : xs.length ≤ 1000000) : Calls Tryz.prog 78 #[v] w (OwnPost EE 77 w xs) := by
  obtain ⟨A, c, rfl, hc, hm, hr⟩ := id hv
  have hn := fun W => Lib.run_eql_slice_nil (P := Tryz.prog) W 39 77 A xs.length c 0 0 Tryz.underlying39
  cases A with
  | none =>
    have h0 : xs = [] := by
      rcases Nat.eq_zero_or_pos xs.length with h0 | h0
      · exact List.eq_nil_of_length_eq_zero h0
      · obtain ⟨b, off, h, _⟩ := hr h0; cases h
    subst h0
    clear hr hv hc hm hl
    simp only [List.length_nil] at hn ⊢
    go_enter Tryz.func78, Tryz.ntmps78
    go_wp2
    go_ret
    exact ⟨_, rfl, Own.nil _ _ _ _, Below.refl _ _⟩
  | some ad =>
    have hO := Own.empty_lit EE 77 w w.heap.size (Nat.le_refl _)
    have hv' := Rd.below hv ((Below.refl _ w).alloc (Nat.le_refl _) (.cells #[] 77))
    have hB : Below w.heap.size w (w.alloc (.cells #[] 77)) := (Below.refl _ _).alloc (Nat.le_refl _) _
    clear hr hv
    go_enter Tryz.func78, Tryz.ntmps78
    go_wp2_with (at_builtin; refine wp_append_rd EE w.heap.size rfl _ _ 39 77 _ 56 rfl Tryz.underlying39 Tryz.infoErr rfl (by decide) _ _ [] xs rfl rfl hO hv' (by simp) (by simp; omega) ?_; intro v1 w1 hO1 hg1 hb1 hat1)
    go_ret
    exact ⟨_, rfl, hO1, hB.trans hb1⟩

/-! ### the sort -/
theorem befI_lt (x y : Err) : Go.Proofs.ltOf befI x y = decide (x.day < y.day ∨ x.day = y.day ∧ x.number < y.number) := by
  unfold Go.Proofs.ltOf befI or2 cmpI
  by_cases h1 : x.day < y.day
  · simp [h1]
  · by_cases h2 : y.day < x.day
    · simp [h1, h2]; omega
    · have : x.day = y.day := by omega
      simp [this]
      by_cases h3 : x.number < y.number
      · simp [h3]
      · by_cases h4 : y.number < x.number <;> simp [h3, h4]
theorem befI_swo : Go.Sort.SWO (Go.Proofs.ltOf befI) where
  irrefl x := by rw [befI_lt]; simp
  trans x y z h1 h2 := by rw [befI_lt] at *; simp only [decide_eq_true_eq] at *; omega
  ntrans x y z h1 h2 := by rw [befI_lt] at *; simp only [decide_eq_false_iff_not] at *; omega
/-- errata as the program's sort leaves them -/
def sortE (xs : List Err) : List Err := (Go.Sort.pdq (Go.Proofs.ltOf befI) xs.toArray 0 xs.length (Lib.bitLen xs.length) true true).toList
theorem sortE_spec (xs : List Err) : (sortE xs).Perm xs ∧ (sortE xs).length = xs.length ∧ Go.Sort.SortedIn (Go.Proofs.ltOf befI) 0 xs.length (sortE xs).toArray := by
  have h := Go.Sort.pdq_sorts (Go.Proofs.ltOf befI) befI_swo xs.toArray 0 xs.length (Lib.bitLen xs.length) true true (Nat.zero_le _) (by simp) (Or.inl rfl)
  have hs : (Go.Sort.pdq (Go.Proofs.ltOf befI) xs.toArray 0 xs.length (Lib.bitLen xs.length) true true).size = xs.length := by have := h.1.1; simpa using this
  refine ⟨?_, by unfold sortE; rw [Array.length_toList]; exact hs, by unfold sortE; simpa using h.2⟩
  have h2 := h.1.2.2
  unfold sortE
  rw [Array.extract_eq_self_of_le (by omega), Array.extract_eq_self_of_le (by simp)] at h2
  exact h2
theorem below_putRow {base : Nat} {w : World} (enc : Value → Value) (blk off : Nat) (d : Array Value) (h : base ≤ blk) : Below base w (Go.Sort.putRow enc w blk off d) :=
  ⟨rfl, rfl, rfl, by simp, fun k hk => by simp only [Go.Sort.putRow, Go.Sort.mapBlock, Array.getElem?_modify]; rw [if_neg (by omega)]⟩
theorem below_grow {base : Nat} {w : World} (os : Array Obj) (h : base ≤ w.heap.size) : Below base w (Go.Sort.grow w os) :=
  ⟨rfl, rfl, rfl, by simp, fun k hk => Go.Sort.heap_grow_old w os (by omega)⟩
theorem below_ahead {base : Nat} {w : World} (n : Nat) : Below base w (Go.Sort.ahead w n) := ⟨rfl, rfl, rfl, Nat.le_refl _, fun _ _ => rfl⟩
theorem below_sortWorld {base : Nat} {w : World} (enc : Err → List Value) (k blk off n : Nat) (d : Array Err) (os : Array Obj) (h : base ≤ blk) (h' : base ≤ w.heap.size) : Below base w (Go.Proofs.sortWorldK enc k w blk off n d os) := by
  unfold Go.Proofs.sortWorldK Go.Sort.putRowK
  exact ((below_ahead n).trans (below_putRow id blk off _ h)).trans (below_grow os (by simpa using h'))
theorem Own.of_cells {α : Type} {E : Enc α} {e : TypeId} {w : World} {base g cap : Nat} {cur : Array Value} {xs : List α} (hb : base ≤ g) (hh : w.heap[g]? = some (.cells cur e (0, 0))) (h1 : xs.length ≤ cap) (h2 : cap ≤ maxLen) (h3 : cur.size = cap * E.k)
    (hr : RowAt E.f E.k w g 0 xs) : Own E e w base (.slice (some ⟨g, 0, none⟩) xs.length cap) xs := by
  refine ⟨flat_length E xs, .inr ⟨g, cap, cur, rfl, hb, hh, h1, h2, h3, ?_⟩⟩
  apply List.ext_getElem?
  intro j
  have hle : xs.length * E.k ≤ cur.size := by rw [h3]; exact Nat.mul_le_mul_right _ h1
  by_cases hj : j < xs.length * E.k
  · have hf : j < (flat E xs).length := by rw [flat_length]; exact hj
    have hc := rd_flat hr j _ (List.getElem?_eq_getElem hf)
    have ha : (⟨g, 0, none⟩ : Addr).add j = ⟨g, j, none⟩ := by unfold Addr.add; split <;> simp_all
    rw [ha] at hc
    rw [List.getElem?_take_of_lt hj, List.getElem?_eq_getElem hf, ← hc]
    simp [World.cell?, hh]
  · rw [List.getElem?_eq_none (by rw [List.length_take]; omega), List.getElem?_eq_none (by rw [flat_length]; omega)]
def SortPost (base : Nat) (v : Value) (xs : List Err) (w : World) (e : Ending) (w' : World) : Prop := e = .returned (.tuple #[]) ∧ Own EE 77 w' base v (sortE xs) ∧ Below base w w'
theorem ins_none (p : Option Addr) (c : Nat) (fv : Value) (w : World) : Calls Tryz.prog 90 #[.slice p 0 c, .int .i64 0, .int .i64 0, fv] w fun e w' => e = .returned (.tuple #[]) ∧ w = w' := by
  go_enter Tryz.func90, Tryz.ntmps90
  go_wp2
  refine wp_loop_rounds 1 ?_
  rw [rounds_succ]
  go_wp2
  go_end0
  exact ⟨rfl, rfl⟩
theorem pdq_none (p : Option Addr) (c : Nat) (lim : Int) (fv : Value) (w : World) : Calls Tryz.prog 63 #[.slice p 0 c, .int .i64 0, .int .i64 0, .int .i64 lim, fv] w fun e w' => e = .returned (.tuple #[]) ∧ w = w' := by
  go_enter Tryz.func63, Tryz.ntmps63
  go_wp2
  refine wp_loop_rounds 1 ?_
  rw [rounds_succ]
  go_wp2_with (go_at_call 90; refine (ins_none _ _ _ _).mono ?_; rintro e w' ⟨rfl, rfl⟩)
  first | go_end0 | refine bodyPost_ret (results_none rfl _ _ _) rfl ?_
  exact ⟨rfl, rfl⟩
theorem bits_zero (w : World) : Calls Tryz.prog 64 #[.int .u64 0] w fun e w' => e = .returned (.int .i64 (Lib.bitLen 0 : Nat)) ∧ w' = w :=
  Any.bits_Len (Go.Proofs.SlLaysF0.n15.bits (P := Tryz.prog) (ρ := Tryz.sortErrL_ren) { Tryz.sortErrL with }) 0 w (by omega) (by omega)
theorem sort_none (p : Option Addr) (c : Nat) (fv : Value) (w : World) : Calls Tryz.prog 45 #[.slice p 0 c, fv] w fun e w' => e = .returned (.tuple #[]) ∧ w = w' := by
  go_enter Tryz.func45, Tryz.ntmps45
  go_wp2_with (first | (go_at_call 64; refine (bits_zero _).mono ?_; rintro e w' ⟨rfl, rfl⟩) | (go_at_call 63; refine (pdq_none _ _ _ _ _).mono ?_; rintro e w' ⟨rfl, rfl⟩))
  go_end0
  exact ⟨rfl, rfl⟩
set_option maxHeartbeats 1000000 in
theorem sort_any (v : Value) (xs : List Err) (w : World) (base : Nat) (hv : Own EE 77 w base v xs) (hl : xs.length ≤ 1000000) : Calls Tryz.prog 45 #[v, .func (.func 46) #[] #[]] w (SortPost base v xs w) := by
  have hlt := hv.lt
  rcases hv.2 with ⟨rfl, hn⟩ | ⟨g, cap, cur, rfl, hb, hh, h1, h2, h3, h4⟩
  · obtain rfl : xs = [] := List.eq_nil_of_length_eq_zero hn
    refine (sort_none none 0 _ w).mono ?_
    rintro e w' ⟨rfl, rfl⟩
    have hs : sortE [] = [] := List.eq_nil_of_length_eq_zero (sortE_spec []).2.1
    exact ⟨rfl, by rw [hs]; exact hv, Below.refl _ _⟩
  · by_cases h0 : xs.length = 0
    · obtain rfl : xs = [] := List.eq_nil_of_length_eq_zero h0
      refine (sort_none _ _ _ w).mono ?_
      rintro e w' ⟨rfl, rfl⟩
      have hs : sortE [] = [] := List.eq_nil_of_length_eq_zero (sortE_spec []).2.1
      exact ⟨rfl, by rw [hs]; exact hv, Below.refl _ _⟩
    have hgs := (hlt g rfl).2
    have hH : Go.Sort.HoldsK Err.enc 6 w g 0 xs.toArray := by
      intro t ht
      have ht' : t < xs.length * 6 := by simpa using ht
      have hc := World.ownsRow.cells hv (g := g) rfl t
      rw [Go.Sort.get_flatK _ _ _ _ (by simpa using ht')]
      have hj : t / 6 < xs.length := by omega
      have hi : t % 6 < 6 := Nat.mod_lt _ (by decide)
      have he : t / 6 * 6 + t % 6 = t := by omega
      have hf := flat_get EE xs (t / 6) (t % 6) hj hi
      rw [show EE.k = 6 from rfl, he] at hf
      have hx : (xs.toArray[t / 6]! : Err) = xs[t / 6] := by rw [getElem!_pos _ _ (by simpa using hj)]; simp
      have hlen : (Err.enc xs[t / 6]).length = 6 := rfl
      have hc2 := hc ((Err.enc xs[t / 6])[t % 6]'(by rw [hlen]; exact hi)) (by rw [hf]; exact List.getElem?_eq_getElem _)
      have ha : (⟨g, 0, none⟩ : Addr).add t = ⟨g, 0 + t, none⟩ := by unfold Addr.add; split <;> simp_all
      rw [ha] at hc2
      refine ⟨?_, by simp [World.frozen?, hh]⟩
      rw [hc2, hx, getElem!_pos _ _ (by rw [hlen]; exact hi)]
      rfl
    have hcon := Go.Proofs.AnyQ.slices_SortFunc_eq Tryz.sortErrL 6 Tryz.isAgg77 Tryz.sizeOf77 Err.enc EE.len EE.one befI befI_swo 46 #[] g 0 cap xs.toArray w (enters_of Tryz.func46 (by kernel_rfl) rfl)
      (fun _ _ _ _ x y => before_any x y _) hH hgs (by simp; omega)
    change Calls Tryz.prog 45 _ _ _ at hcon
    have hsz : xs.toArray.size = xs.length := by simp
    rw [hsz] at hcon
    refine hcon.mono ?_
    rintro e w' ⟨rfl, n, os, rfl⟩
    have hsp := sortE_spec xs
    refine ⟨rfl, ?_, below_sortWorld _ _ _ _ _ _ _ hb (by omega)⟩
    have hK := Go.Proofs.holdsK_sortWorldK_c Err.enc 6 w g 0 xs.toArray (sortE xs).toArray n os hH hgs (by simp [hsp.2.1])
    have hheap : (Go.Proofs.sortWorldK Err.enc 6 w g 0 n (Go.Sort.pdq (Go.Proofs.ltOf befI) xs.toArray 0 xs.length (Lib.bitLen xs.length) true true) os).heap[g]? = some (.cells (Go.Sort.putCells id 0 (Go.Sort.flatK Err.enc 6 (Go.Sort.pdq (Go.Proofs.ltOf befI) xs.toArray 0 xs.length (Lib.bitLen xs.length) true true)) cur) 77 (0, 0)) := by
      unfold Go.Proofs.sortWorldK Go.Sort.putRowK
      rw [Go.Sort.heap_grow_old _ _ (by simpa using hgs)]
      simp only [Go.Sort.putRow, Go.Sort.mapBlock, Array.getElem?_modify, if_true, Go.Sort.ahead, hh, Option.map_some, Go.Sort.onCells]
    have hO : Own EE 77 _ base (.slice (some ⟨g, 0, none⟩) (sortE xs).length cap) (sortE xs) := Own.of_cells (E := EE) (cap := cap) hb hheap (by rw [hsp.2.1]; exact h1) h2 (by simp [Go.Sort.putCells, h3]) ?_
    · rw [hsp.2.1] at hO; exact hO
    · intro j hj i u hu
      have hi : i < 6 := (List.getElem?_eq_some_iff.1 hu).1
      have h := (Go.Sort.HoldsK.cell hK (i := j) (c := i) (by simpa using hj) hi).1
      have hx : ((sortE xs).toArray[j]! : Err) = (sortE xs)[j] := by rw [getElem!_pos _ _ (by simpa using hj)]; simp
      rw [hx] at h
      have e0 : (sortE xs).toArray = Go.Sort.pdq (Go.Proofs.ltOf befI) xs.toArray 0 xs.length (Lib.bitLen xs.length) true true := by unfold sortE; simp
      rw [e0] at h
      have hu2 : (Err.enc (sortE xs)[j])[i]! = u := by
        have := (List.getElem?_eq_some_iff.1 hu).2
        rw [getElem!_pos (Err.enc (sortE xs)[j]) i (show i < (Err.enc (sortE xs)[j]).length from hi)]; exact this
      rw [hu2] at h
      exact h
end Go.Proofs.YtjkmdpejcgepkaaGreatDoor
