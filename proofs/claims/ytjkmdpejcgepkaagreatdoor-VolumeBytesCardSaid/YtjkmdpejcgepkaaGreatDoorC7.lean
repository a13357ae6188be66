/- slices.Clone and slices.SortFunc at errata. -/
import Derived.Test.YtjkmdpejcgepkaaGreatDoorC4
import Derived.Test.YtjkmdpejcgepkaaGreatDoorS1
import Derived.WalkSpells
import Derived.RangeFuncNested
import Derived.RangeFuncBound
import Derived.RangeFuncCalls
import Derived.RangeFuncLeaves
import Derived.RangeFuncKeeps
import Derived.OwnWalkIn
import Derived.TacticsInMore
import Derived.LoopNIn
import Derived.LoopIn
import Derived.Maps.OwnIn
import Derived.Outline
namespace Go.Proofs.YtjkmdpejcgepkaaGreatDoor
open Go.RowKit
theorem Tryz.infoErr : (Tryz.prog.info? 77).map (fun i => (i.zero, i.size, i.bytes)) = some (some (.agg #[.int .i64 0, .int .i64 0, .int .u8 0, .int .i64 0, .string ⟨#[]⟩, .int .i64 0]), 6, 56) := by kernel_rfl
def OwnPost {α : Type} (E : Enc α) (t : TypeId) (w : World) (xs : List α) (e : Ending) (w' : World) : Prop := ∃ v, e = .returned v ∧ Own E t w' w.heap.size v xs ∧ Below w.heap.size w w'
theorem Own.empty_lit {α : Type} (E : Enc α) (t : TypeId) (w : World) (base : Nat) (h : base ≤ w.heap.size) : Own E t (w.alloc (.cells #[] t)) base (.slice (some ⟨w.heap.size, 0, none⟩) 0 0) [] :=
  ⟨by simp [flat], .inr ⟨w.heap.size, 0, #[], rfl, h, heap_alloc_new w _, by simp, by simp [maxLen], by simp, by simp [flat]⟩⟩
set_option maxRecDepth 100000 in
theorem clone_any (v : Value) (xs : List Err) (w : World) (hv : RdE w v xs) (hl : xs.length ≤ 1000000) : Calls Tryz.prog 78 #[v] w (OwnPost EE 77 w xs) := by
  obtain ⟨A, c, rfl, hc, hm, hr⟩ := id hv
  have hn := fun W => Lib.run_eql_slice_nil (P := Tryz.prog) W 39 77 A xs.length c 0 0 Tryz.underlying39
  cases A with
  | none =>
    have h0 : xs = [] := by
      rcases Nat.eq_zero_or_pos xs.length with h0 | h0
      · exact List.eq_nil_of_length_eq_zero h0
      · obtain ⟨b, off, h, _⟩ := hr h0; cases h
    subst h0
    clear hr hv hc hm hl
    simp only [List.length_nil] at hn ⊢
    go_enter Tryz.func78, Tryz.ntmps78
    go_wp2
    go_ret
    exact ⟨_, rfl, Own.nil _ _ _ _, Below.refl _ _⟩
  | some ad =>
    have hO := Own.empty_lit EE 77 w w.heap.size (Nat.le_refl _)
    have hv' := Rd.below hv ((Below.refl _ w).alloc (Nat.le_refl _) (.cells #[] 77))
    have hB : Below w.heap.size w (w.alloc (.cells #[] 77)) := (Below.refl _ _).alloc (Nat.le_refl _) _
    clear hr hv
    go_enter Tryz.func78, Tryz.ntmps78
    go_wp2_with (at_builtin; refine wp_append_rd EE w.heap.size rfl _ _ 39 77 _ 56 rfl Tryz.underlying39 Tryz.infoErr rfl (by decide) _ _ [] xs rfl rfl hO hv' (by simp) (by simp; omega) ?_; intro v1 w1 hO1 hg1 hb1 hat1)
    go_ret
    exact ⟨_, rfl, hO1, hB.trans hb1⟩

/-! ### the sort -/
theorem befI_lt (x y : Err) : Go.Proofs.ltOf befI x y = decide (x.day < y.day ∨ x.day = y.day ∧ x.number < y.number) := by
  unfold Go.Proofs.ltOf befI or2 cmpI
  by_cases h1 : x.day < y.day
  · simp [h1]
  · by_cases h2 : y.day < x.day
    · simp [h1, h2]; omega
    · have : x.day = y.day := by omega
      simp [this]
      by_cases h3 : x.number < y.number
      · simp [h3]
      · by_cases h4 : y.number < x.number <;> simp [h3, h4]
theorem befI_swo : Go.Sort.SWO (Go.Proofs.ltOf befI) where
  irrefl x := by rw [befI_lt]; simp
  trans x y z h1 h2 := by rw [befI_lt] at *; simp only [decide_eq_true_eq] at *; omega
  ntrans x y z h1 h2 := by rw [befI_lt] at *; simp only [decide_eq_false_iff_not] at *; omega
/-- errata as the program's sort leaves them -/
def sortE (xs : List Err) : List Err := (Go.Sort.pdq (Go.Proofs.ltOf befI) xs.toArray 0 xs.length (Lib.bitLen xs.length) true true).toList
theorem sortE_spec (xs : List Err) : (sortE xs).Perm xs ∧ (sortE xs).length = xs.length ∧ Go.Sort.SortedIn (Go.Proofs.ltOf befI) 0 xs.length (sortE xs).toArray := by
  have h := Go.Sort.pdq_sorts (Go.Proofs.ltOf befI) befI_swo xs.toArray 0 xs.length (Lib.bitLen xs.length) true true (Nat.zero_le _) (by simp) (Or.inl rfl)
  have hs : (Go.Sort.pdq (Go.Proofs.ltOf befI) xs.toArray 0 xs.length (Lib.bitLen xs.length) true true).size = xs.length := by have := h.1.1; simpa using this
  refine ⟨?_, by unfold sortE; rw [Array.length_toList]; exact hs, by unfold sortE; simpa using h.2⟩
  have h2 := h.1.2.2
  unfold sortE
  rw [Array.extract_eq_self_of_le (by omega), Array.extract_eq_self_of_le (by simp)] at h2
  exact h2
theorem below_putRow {base : Nat} {w : World} (enc : Value → Value) (blk off : Nat) (d : Array Value) (h : base ≤ blk) : Below base w (Go.Sort.putRow enc w blk off d) :=
  ⟨rfl, rfl, rfl, by simp, fun k hk => by simp only [Go.Sort.putRow, Go.Sort.mapBlock, Array.getElem?_modify]; rw [if_neg (by omega)]⟩
theorem below_grow {base : Nat} {w : World} (os : Array Obj) (h : base ≤ w.heap.size) : Below base w (Go.Sort.grow w os) :=
  ⟨rfl, rfl, rfl, by simp, fun k hk => Go.Sort.heap_grow_old w os (by omega)⟩
theorem below_ahead {base : Nat} {w : World} (n : Nat) : Below base w (Go.Sort.ahead w n) := ⟨rfl, rfl, rfl, Nat.le_refl _, fun _ _ => rfl⟩
theorem below_sortWorld {base : Nat} {w : World} (enc : Err → List Value) (k blk off n : Nat) (d : Array Err) (os : Array Obj) (h : base ≤ blk) (h' : base ≤ w.heap.size) : Below base w (Go.Proofs.sortWorldK enc k w blk off n d os) := by
  unfold Go.Proofs.sortWorldK Go.Sort.putRowK
  exact ((below_ahead n).trans (below_putRow id blk off _ h)).trans (below_grow os (by simpa using h'))
theorem Own.of_cells {α : Type} {E : Enc α} {e : TypeId} {w : World} {base g cap : Nat} {cur : Array Value} {xs : List α} (hb : base ≤ g) (hh : w.heap[g]? = some (.cells cur e (0, 0))) (h1 : xs.length ≤ cap) (h2 : cap ≤ maxLen) (h3 : cur.size = cap * E.k)
    (hr : RowAt E.f E.k w g 0 xs) : Own E e w base (.slice (some ⟨g, 0, none⟩) xs.length cap) xs := by
  refine ⟨flat_length E xs, .inr ⟨g, cap, cur, rfl, hb, hh, h1, h2, h3, ?_⟩⟩
  apply List.ext_getElem?
  intro j
  have hle : xs.length * E.k ≤ cur.size := by rw [h3]; exact Nat.mul_le_mul_right _ h1
  by_cases hj : j < xs.length * E.k
  · have hf : j < (flat E xs).length := by rw [flat_length]; exact hj
    have hc := rd_flat hr j _ (List.getElem?_eq_getElem hf)
    have ha : (⟨g, 0, none⟩ : Addr).add j = ⟨g, j, none⟩ := by unfold Addr.add; split <;> simp_all
    rw [ha] at hc
    rw [List.getElem?_take_of_lt hj, List.getElem?_eq_getElem hf, ← hc]
    simp [World.cell?, hh]
  · rw [List.getElem?_eq_none (by rw [List.length_take]; omega), List.getElem?_eq_none (by rw [flat_length]; omega)]
def SortPost (base : Nat) (v : Value) (xs : List Err) (w : World) (e : Ending) (w' : World) : Prop := e = .returned (.tuple #[]) ∧ Own EE 77 w' base v (sortE xs) ∧ Below base w w'
theorem ins_none (p : Option Addr) (c : Nat) (fv : Value) (w : World) : Calls Tryz.prog 90 #[.slice p 0 c, .int .i64 0, .int .i64 0, fv] w fun e w' => e = .returned (.tuple #[]) ∧ w = w' := by
  go_enter Tryz.func90, Tryz.ntmps90
  go_wp2
  refine wp_loop_rounds 1 ?_
  rw [rounds_succ]
  go_wp2
  go_end0
  exact ⟨rfl, rfl⟩
theorem pdq_none (p : Option Addr) (c : Nat) (lim : Int) (fv : Value) (w : World) : Calls Tryz.prog 63 #[.slice p 0 c, .int .i64 0, .int .i64 0, .int .i64 lim, fv] w fun e w' => e = .returned (.tuple #[]) ∧ w = w' := by
  go_enter Tryz.func63, Tryz.ntmps63
  go_wp2
  refine wp_loop_rounds 1 ?_
  rw [rounds_succ]
  go_wp2_with (go_at_call 90; refine (ins_none _ _ _ _).mono ?_; rintro e w' ⟨rfl, rfl⟩)
  first | go_end0 | refine bodyPost_ret (results_none rfl _ _ _) rfl ?_
  exact ⟨rfl, rfl⟩
theorem bits_zero (w : World) : Calls Tryz.prog 64 #[.int .u64 0] w fun e w' => e = .returned (.int .i64 (Lib.bitLen 0 : Nat)) ∧ w' = w :=
  Any.bits_Len (Go.Proofs.SlLaysF0.n15.bits (P := Tryz.prog) (ρ := Tryz.sortErrL_ren) { Tryz.sortErrL with }) 0 w (by omega) (by omega)
theorem sort_none (p : Option Addr) (c : Nat) (fv : Value) (w : World) : Calls Tryz.prog 45 #[.slice p 0 c, fv] w fun e w' => e = .returned (.tuple #[]) ∧ w = w' := by
  go_enter Tryz.func45, Tryz.ntmps45
  go_wp2_with (first | (go_at_call 64; refine (bits_zero _).mono ?_; rintro e w' ⟨rfl, rfl⟩) | (go_at_call 63; refine (pdq_none _ _ _ _ _).mono ?_; rintro e w' ⟨rfl, rfl⟩))
  go_end0
  exact ⟨rfl, rfl⟩
set_option maxHeartbeats 1000000 in
theorem sort_any (v : Value) (xs : List Err) (w : World) (base : Nat) (hv : Own EE 77 w base v xs) (hl : xs.length ≤ 1000000) : Calls Tryz.prog 45 #[v, .func (.func 46) #[] #[]] w (SortPost base v xs w) := by
  have hlt := hv.lt
  rcases hv.2 with ⟨rfl, hn⟩ | ⟨g, cap, cur, rfl, hb, hh, h1, h2, h3, h4⟩
  · obtain rfl : xs = [] := List.eq_nil_of_length_eq_zero hn
    refine (sort_none none 0 _ w).mono ?_
    rintro e w' ⟨rfl, rfl⟩
    have hs : sortE [] = [] := List.eq_nil_of_length_eq_zero (sortE_spec []).2.1
    exact ⟨rfl, by rw [hs]; exact hv, Below.refl _ _⟩
  · by_cases h0 : xs.length = 0
    · obtain rfl : xs = [] := List.eq_nil_of_length_eq_zero h0
      refine (sort_none _ _ _ w).mono ?_
      rintro e w' ⟨rfl, rfl⟩
      have hs : sortE [] = [] := List.eq_nil_of_length_eq_zero (sortE_spec []).2.1
      exact ⟨rfl, by rw [hs]; exact hv, Below.refl _ _⟩
    have hgs := (hlt g rfl).2
    have hH : Go.Sort.HoldsK Err.enc 6 w g 0 xs.toArray := by
      intro t ht
      have ht' : t < xs.length * 6 := by simpa using ht
      have hc := World.ownsRow.cells hv (g := g) rfl t
      rw [Go.Sort.get_flatK _ _ _ _ (by simpa using ht')]
      have hj : t / 6 < xs.length := by omega
      have hi : t % 6 < 6 := Nat.mod_lt _ (by decide)
      have he : t / 6 * 6 + t % 6 = t := by omega
      have hf := flat_get EE xs (t / 6) (t % 6) hj hi
      rw [show EE.k = 6 from rfl, he] at hf
      have hx : (xs.toArray[t / 6]! : Err) = xs[t / 6] := by rw [getElem!_pos _ _ (by simpa using hj)]; simp
      have hlen : (Err.enc xs[t / 6]).length = 6 := rfl
      have hc2 := hc ((Err.enc xs[t / 6])[t % 6]'(by rw [hlen]; exact hi)) (by rw [hf]; exact List.getElem?_eq_getElem _)
      have ha : (⟨g, 0, none⟩ : Addr).add t = ⟨g, 0 + t, none⟩ := by unfold Addr.add; split <;> simp_all
      rw [ha] at hc2
      refine ⟨?_, by simp [World.frozen?, hh]⟩
      rw [hc2, hx, getElem!_pos _ _ (by rw [hlen]; exact hi)]
      rfl
    have hcon := Go.Proofs.AnyQ.slices_SortFunc_eq Tryz.sortErrL 6 Tryz.isAgg77 Tryz.sizeOf77 Err.enc EE.len EE.one befI befI_swo 46 #[] g 0 cap xs.toArray w (enters_of Tryz.func46 (by kernel_rfl) rfl)
      (fun _ _ _ _ x y => before_any x y _) hH hgs (by simp; omega)
    change Calls Tryz.prog 45 _ _ _ at hcon
    have hsz : xs.toArray.size = xs.length := by simp
    rw [hsz] at hcon
    refine hcon.mono ?_
    rintro e w' ⟨rfl, n, os, rfl⟩
    have hsp := sortE_spec xs
    refine ⟨rfl, ?_, below_sortWorld _ _ _ _ _ _ _ hb (by omega)⟩
    have hK := Go.Proofs.holdsK_sortWorldK_c Err.enc 6 w g 0 xs.toArray (sortE xs).toArray n os hH hgs (by simp [hsp.2.1])
    have hheap : (Go.Proofs.sortWorldK Err.enc 6 w g 0 n (Go.Sort.pdq (Go.Proofs.ltOf befI) xs.toArray 0 xs.length (Lib.bitLen xs.length) true true) os).heap[g]? = some (.cells (Go.Sort.putCells id 0 (Go.Sort.flatK Err.enc 6 (Go.Sort.pdq (Go.Proofs.ltOf befI) xs.toArray 0 xs.length (Lib.bitLen xs.length) true true)) cur) 77 (0, 0)) := by
      unfold Go.Proofs.sortWorldK Go.Sort.putRowK
      rw [Go.Sort.heap_grow_old _ _ (by simpa using hgs)]
      simp only [Go.Sort.putRow, Go.Sort.mapBlock, Array.getElem?_modify, if_true, Go.Sort.ahead, hh, Option.map_some, Go.Sort.onCells]
    have hO : Own EE 77 _ base (.slice (some ⟨g, 0, none⟩) (sortE xs).length cap) (sortE xs) := Own.of_cells (E := EE) (cap := cap) hb hheap (by rw [hsp.2.1]; exact h1) h2 (by simp [Go.Sort.putCells, h3]) ?_
    · rw [hsp.2.1] at hO; exact hO
    · intro j hj i u hu
      have hi : i < 6 := (List.getElem?_eq_some_iff.1 hu).1
      have h := (Go.Sort.HoldsK.cell hK (i := j) (c := i) (by simpa using hj) hi).1
      have hx : ((sortE xs).toArray[j]! : Err) = (sortE xs)[j] := by rw [getElem!_pos _ _ (by simpa using hj)]; simp
      rw [hx] at h
      have e0 : (sortE xs).toArray = Go.Sort.pdq (Go.Proofs.ltOf befI) xs.toArray 0 xs.length (Lib.bitLen xs.length) true true := by unfold sortE; simp
      rw [e0] at h
      have hu2 : (Err.enc (sortE xs)[j])[i]! = u := by
        have := (List.getElem?_eq_some_iff.1 hu).2
        rw [getElem!_pos (Err.enc (sortE xs)[j]) i (show i < (Err.enc (sortE xs)[j]).length from hi)]; exact this
      rw [hu2] at h
      exact h
end Go.Proofs.YtjkmdpejcgepkaaGreatDoor
/- The iterator over errata that were issued up to a day. -/
namespace Go.Proofs.YtjkmdpejcgepkaaGreatDoor
open Go.RowKit
attribute [local go_sem] Oper.semAt_some
/-- what a round keeps: blocks of errata, and of whole numbers -/
def KeepT (W W' : World) : Prop := ∀ (k : Nat) (cs : Array Value) (t : TypeId) (fr : Nat × Nat), (t = 77 ∨ t = 3) → W.heap[k]? = some (Obj.cells cs t fr) → W'.heap[k]? = some (Obj.cells cs t fr)
theorem KeepT.refl (W : World) : KeepT W W := fun _ _ _ _ _ h => h
theorem KeepT.trans {A B C : World} (h : KeepT A B) (k : KeepT B C) : KeepT A C := fun i cs t fr ht hi => k i cs t fr ht (h i cs t fr ht hi)
theorem KeepT.below {W W' : World} (h : Below W.heap.size W W') : KeepT W W' := fun k cs t fr _ hk => by rw [h.block k (Array.getElem?_eq_some_iff.1 hk).1]; exact hk
theorem KeepT.grown {W W' : World} {row : Option Nat} (h : W.grownBy W' row) (hr : ∀ k, row = some k → ∀ cs t fr, W.heap[k]? = some (.cells cs t fr) → t ≠ 77 ∧ t ≠ 3) : KeepT W W' := fun k cs t fr ht hk => by
  rw [h.block k (Array.getElem?_eq_some_iff.1 hk).1 (fun e => by have := hr k e.symm cs t fr hk; rcases ht with ht | ht <;> simp_all)]; exact hk
theorem KeepT.putObj (W : World) (l : Nat) (o o' : Obj) (hl : W.heap[l]? = some o) (ho : o.isCells = false) : KeepT W (W.putObj l o') := fun k cs t fr _ hk => by
  have : k ≠ l := by rintro rfl; rw [hl] at hk; injection hk with hk; subst hk; simp [Obj.isCells] at ho
  rw [World.putObj_heap_other this]; exact hk
/-- errata that were issued up to a day, in their order -/
def issuedL (errata : List Err) (to : Int) : List Err := (sortE errata).takeWhile fun x => !(decide (to < x.day))
theorem takeWhile_stop {α : Type} (p : α → Bool) (l : List α) (k : Nat) (hk : k < l.length) (h : ∀ j (hj : j < l.length), j < k → p l[j] = true) (hn : p l[k] = false) : l.takeWhile p = l.take k := by
  induction l generalizing k with
  | nil => simp at hk
  | cons x l ih =>
    cases k with
    | zero => simp only [List.getElem_cons_zero] at hn; simp [hn]
    | succ k =>
      have h0 := h 0 (by simp) (by omega)
      simp only [List.getElem_cons_zero] at h0
      simp only [List.takeWhile_cons, h0, if_true, List.take_succ_cons]
      rw [ih k (by simpa using hk) (fun j hj hjk => by have := h (j + 1) (by simpa using hj) (by omega); simpa using this) (by simpa using hn)]
theorem takeWhile_all {α : Type} (p : α → Bool) (l : List α) (h : ∀ j (hj : j < l.length), p l[j] = true) : l.takeWhile p = l := by
  induction l with
  | nil => rfl
  | cons x l ih =>
    have h0 := h 0 (by simp)
    simp only [List.getElem_cons_zero] at h0
    rw [List.takeWhile_cons, h0, if_pos rfl, ih (fun j hj => by have := h (j + 1) (by simpa using hj); simpa using this)]
theorem take_prefix_takeWhile {α : Type} (p : α → Bool) (l : List α) (k : Nat) (hk : k ≤ l.length) (h : ∀ j (hj : j < l.length), j < k → p l[j] = true) : l.take k <+: l.takeWhile p := by
  induction l generalizing k with
  | nil => simp
  | cons x l ih =>
    cases k with
    | zero => simp
    | succ k =>
      have h0 := h 0 (by simp) (by omega)
      simp only [List.getElem_cons_zero] at h0
      simp only [List.takeWhile_cons, h0, if_true, List.take_succ_cons]
      rw [List.cons_prefix_cons]
      exact ⟨rfl, ih k (by simpa using hk) (fun j hj hjk => by have := h (j + 1) (by simpa using hj) (by omega); simpa using this)⟩
theorem lift_list {α : Type} {C : α → Prop} (l : List α) (h : ∀ x ∈ l, C x) : ∃ l' : List {x : α // C x}, l'.map (·.1) = l := by
  induction l with
  | nil => exact ⟨[], rfl⟩
  | cons x l ih =>
    obtain ⟨l', h'⟩ := ih fun y hy => h y (List.mem_cons_of_mem _ hy)
    exact ⟨⟨x, h x (List.mem_cons_self ..)⟩ :: l', by simp [h']⟩
set_option maxHeartbeats 2000000 in
theorem issued1_stops (n : Nat) (w : World) (eb tb : Nat) (ev : Value) (errata : List Err) (to : Int) (he : w.heap[eb]? = some (.cells #[ev] 39 (0, 0))) (ht : w.heap[tb]? = some (.cells #[.int .i64 to] 3 (0, 0)))
    (hr : RdE w ev errata) (hl : errata.length ≤ 1000000) (C : Err → Prop) (hC : ∀ x ∈ errata, C x) :
    SeqStopsK Fence.wide n Tryz.prog 77 #[.pointer (some ⟨eb, 0, none⟩), .pointer (some ⟨tb, 0, none⟩)] (fun x : {x : Err // C x} => #[x.1.val]) KeepT (fun xs => xs.map (·.1) = issuedL errata to) (fun pre => pre.map (·.1) <+: issuedL errata to) errata.length w := by
  intro l J Jx W hW hJ hJx hY h0
  have heb := (Array.getElem?_eq_some_iff.1 he).1
  have htb := (Array.getElem?_eq_some_iff.1 ht).1
  have ce : W.cell? ⟨eb, 0, none⟩ = some ev := by rw [hW.cell (p := ⟨eb, 0, none⟩) heb]; simp [World.cell?, he]
  have hT : W.heap[tb]? = some (.cells #[.int .i64 to] 3 (0, 0)) := by rw [hW.block tb htb]; exact ht
  have hrW := Rd.below hr hW
  obtain ⟨A0, c0, rfl, -⟩ := id hr
  clear he ht hr
  refine callsIn_of_wp Tryz.func77 rfl trivial ?_ rfl
  simp only [Tryz.ntmps77, List.size_toArray, List.length_cons, List.length_nil, Nat.reduceAdd, Nat.reduceSub, Array.replicate_succ, Array.replicate_zero, List.push_toArray, List.append_toArray, List.nil_append, List.cons_append]
  have hcl := clone_any _ errata W hrW hl
  gi_wp2
  refine ⟨trivial, fun h => by simp [Fence.wide] at h, ?_⟩
  refine (callsIn_wide.2 hcl).mono ?_
  rintro e w1 ⟨v1, rfl, hO1, hB1⟩
  gi_wp2
  refine ⟨trivial, fun h => by simp [Fence.wide] at h, ?_⟩
  refine (callsIn_wide.2 (sort_any v1 errata w1 W.heap.size hO1 hl)).mono ?_
  rintro e w2 ⟨rfl, hO2, hB2⟩
  have hB : Below W.heap.size W w2 := hB1.trans hB2
  have hJ2 : J [] w2 := hJ [] W w2 none h0 (grownBy_of_below hB none) (fun r e => by cases e)
  have hT2 : w2.heap[tb]? = some (.cells #[.int .i64 to] 3 (0, 0)) := by rw [hB.block tb (Nat.lt_of_lt_of_le htb hW.size)]; exact hT
  have hsl : (sortE errata).length = errata.length := (sortE_spec errata).2.1
  have hCs : ∀ x ∈ sortE errata, C x := fun x hx => hC x ((sortE_spec errata).1.mem_iff.1 hx)
  have hIL : issuedL errata to = (sortE errata).takeWhile fun x => !(decide (to < x.day)) := rfl
  have HIL := Lib.hid hIL
  generalize sortE errata = ss at hO2 hsl hIL HIL hCs
  obtain ⟨ss', hss⟩ := lift_list ss hCs
  have hls : ss'.length = ss.length := by rw [← hss, List.length_map]
  have hmt : ∀ k, (ss'.take k).map (·.1) = ss.take k := fun k => by rw [← hss, List.map_take]
  have hgt : ∀ k (h : k < ss.length) (h' : k < ss'.length), (ss'[k]).1 = ss[k] := fun k h h' => by simp [← hss]
  have HL := Lib.hid hls; have HM := Lib.hid hmt; have HG := Lib.hid hgt
  clear hls hmt hgt hss hCs hC
  clear hcl hO1 hB1 hB2 hrW ce hT h0 hW heb hIL
  have HS := Lib.hid hsl
  have hm : (ss.length : Int) ≤ 1000000 := by omega
  clear hsl
  obtain ⟨A1, c1, rfl, hc1, -, hrow⟩ := id hO2.rd
  -- the row's block
  have hblk : 0 < ss.length → ∃ g cur, A1 = some ⟨g, 0, none⟩ ∧ w2.heap[g]? = some (.cells cur 77 (0, 0)) ∧ RowAt EE.f EE.k w2 g 0 ss := by
    intro h
    rcases hO2.2 with ⟨e, _⟩ | ⟨g, cap, cur, e, _, hh, _⟩
    · injection e with e1 e2 e3; omega
    · injection e with e1 e2 e3
      obtain ⟨b, off, e4, _, hr⟩ := hrow h
      rw [e1] at e4
      injection e4 with e4
      injection e4 with e5 e6 e7
      subst e5; subst e6
      exact ⟨g, cur, e1, hh, hr⟩
  clear hrow hO2
  gi_wp2
  gi_loopw [6, 13] (fun s6 s13 wr => ∃ kk : Nat, kk ≤ ss.length ∧ s13 = .int .i64 kk ∧ Aside (J (ss'.take kk) wr ∧ KeepT w2 wr ∧ ∀ j (h : j < ss.length), j < kk → (!(decide (to < ss[j].day))) = true)) (fun _ s13 _ => ss.length - (intOf s13).toNat)
  case atStart => exact ⟨0, Nat.zero_le _, rfl, by simpa using hJ2, KeepT.refl _, fun j _ hj => absurd hj (Nat.not_lt_zero _)⟩
  case round =>
    obtain ⟨kk, hkk, rfl, A⟩ := hrel
    by_cases hlt : kk < ss.length
    · obtain ⟨g, cur, rfl, hg, hra⟩ := hblk (by omega)
      clear hblk
      have hg' := A.out.2.1 g cur 77 (0, 0) (.inl rfl) hg
      have ht' := A.out.2.1 tb _ 3 (0, 0) (.inr rfl) hT2
      have hgz := (Array.getElem?_eq_some_iff.1 hg').1
      have htz := (Array.getElem?_eq_some_iff.1 ht').1
      have ct : wr.cell? ⟨tb, 0, none⟩ = some (.int .i64 to) := by simp [World.cell?, ht']
      have hc' : ∀ i u, (EE.f ss[kk])[i]? = some u → wr.cell? ⟨g, kk * 6 + i, none⟩ = some u := fun i u hu => by
        have h := hra kk hlt i u hu
        rw [Nat.zero_add, show EE.k = 6 from rfl] at h
        simp only [World.cell?, hg] at h
        simp only [World.cell?, hg']
        exact h
      have hlt' : kk < ss'.length := by have := HL.out; omega
      have hts : Hid (ss'.take (kk + 1) = ss'.take kk ++ [ss'[kk]]) := Lib.hid (List.take_succ_eq_append_getElem hlt')
      have hYY := hY (ss'.take kk) ss'[kk]
      rw [HG.out kk hlt hlt'] at hYY
      have hpre : (ss'.take kk).length < errata.length := by rw [List.length_take]; have := HS.out; omega
      have hgo : Hid ((!(decide (to < ss[kk].day))) = true → ∀ j (h : j < ss.length), j < kk + 1 → (!(decide (to < ss[j].day))) = true) := Lib.hid fun h j hj hjk => by
        by_cases e : j = kk
        · subst e; exact h
        · exact A.out.2.2 j hj (by omega)
      have hstop : Hid ((!(decide (to < ss[kk].day))) = false → issuedL errata to = ss.take kk) := Lib.hid fun h => by
        rw [HIL.out]
        exact takeWhile_stop _ ss kk hlt A.out.2.2 h
      have hpfx : Hid ((!(decide (to < ss[kk].day))) = true → ss.take (kk + 1) <+: issuedL errata to) := Lib.hid fun h => by
        rw [HIL.out]
        exact take_prefix_takeWhile _ ss (kk + 1) hlt (hgo.out h)
      have HJ := Lib.hid hJ
      have hAJ := Lib.hid A.out.1
      have hAK := Lib.hid A.out.2.1
      clear A hY hJ hJx hra hJ2
      generalize ss[kk] = y at hc' hYY hgo hstop hpfx
      obtain ⟨y0, y1, y2, y3, y4, y5⟩ := y
      have c0 := hc' 0 _ rfl; have c1 := hc' 1 _ rfl; have c2 := hc' 2 _ rfl; have c3 := hc' 3 _ rfl; have c4 := hc' 4 _ rfl; have c5 := hc' 5 _ rfl
      clear hc'
      simp only [Nat.add_zero] at c0
      dsimp only at hgo hstop hpfx
      by_cases hday : to < y1
      · have hL := Lib.hid (hstop.out (by simp [hday]))
        have hday' : decide (to < y1) = true := by simpa using hday
        clear hYY hgo hpfx hts hstop
        gi_wp2
        refine ⟨fun _ h => (by cases h), ?_⟩
        gi_wp2
        first | go_end0 | refine bodyPost_ret (results_none rfl _ _ _) rfl ?_
        refine ⟨⟨_, rfl⟩, .inl ⟨ss'.take kk, by rw [HM.out, hL.out], ?_⟩⟩
        exact HJ.out _ wr _ none hAJ.out (World.grownBy_alloc _ _ _) (fun r e => by cases e)
      · have hday' : decide (to < y1) = false := by simpa using hday
        have hG := Lib.hid (hgo.out (by simp [hday]))
        have hP := Lib.hid (hpfx.out (by simp [hday]))
        clear hgo hpfx hstop
        obtain ⟨fn, tmps, assign, body, hy, hR⟩ := hYY (wr.alloc (.cells #[.int .i64 y0, .int .i64 y1, .int .u8 y2, .int .i64 y3, .string y4, .int .i64 y5] 77))
          (HJ.out _ wr _ none hAJ.out (World.grownBy_alloc _ _ _) (fun r e => by cases e)) hpre
        clear hYY
        dsimp only [Err.val] at hy
        gi_wp2
        refine ⟨fun h => by simp [Fence.wide] at h, ?_⟩
        refine hR.mono ?_
        rintro e W' (⟨rfl, hJ', hk⟩ | ⟨rfl, hJx'⟩)
        · gi_wp2
          go_roundw
          case rel =>
            have hk1 : KeepT wr W' := (KeepT.below ((Below.refl _ wr).alloc (Nat.le_refl _) _)).trans hk
            refine ⟨kk + 1, by omega, by go_num, ?_, hAK.out.trans hk1, hG.out⟩
            rw [hts.out]; exact hJ'
          case measure => simp [intOf]; omega
        · gi_wp2
          first | go_end0 | refine bodyPost_ret (results_none rfl _ _ _) rfl ?_
          refine ⟨⟨_, rfl⟩, .inr ⟨ss'.take (kk + 1), by rw [HM.out]; exact hP.out, ?_⟩⟩
          rw [hts.out]; exact hJx'
    · have : kk = ss.length := by omega
      subst this
      have hAA := Lib.hid A.out
      clear A hY hJ hJx hblk hJ2
      gi_wp2
      first | go_end0 | refine bodyPost_ret (results_none rfl _ _ _) rfl ?_
      refine ⟨⟨_, rfl⟩, .inl ⟨ss'.take ss.length, ?_, hAA.out.1⟩⟩
      rw [HM.out, HIL.out, takeWhile_all _ ss (fun j hj => hAA.out.2.2 j hj hj), List.take_length]
end Go.Proofs.YtjkmdpejcgepkaaGreatDoor
/- anchored: whether errata find their anchors when they are issued. -/
namespace Go.Proofs.YtjkmdpejcgepkaaGreatDoor
open Go.RowKit
attribute [local go_sem] Oper.semAt_some
theorem issued_any (A : Option Addr) (n c : Nat) (to : Int) (w : World) : Calls Tryz.prog 55 #[.slice A n c, .int .i64 to] w fun e w' =>
    e = .returned (.func (.func 77) #[] #[.pointer (some ⟨w.heap.size, 0, none⟩), .pointer (some ⟨w.heap.size + 1, 0, none⟩)]) ∧ (w.alloc (.cells #[.slice A n c] 39)).alloc (.cells #[.int .i64 to] 3) = w' := by
  go_enter Tryz.func55, Tryz.ntmps55
  go_wp2
  go_ret
  exact ⟨rfl, rfl⟩
section
variable {F : Fence} {nF : Nat} {w : World} {ops : Array Oper} {rest : List Oper} {o : Oper} {a : Act} {Q : Exit → Act → World → Prop}
theorem wpIn_set_lookup (hg : o.guard = none) (m x : Operand) (hop : o.op = Op.lookup 124 m x false) (b n : Nat) (acc : List Int) (key : Int)
    (hm : a.eval m = .map (some b)) (hown : OwnSet w b n acc) (hx : a.eval x = .int .i64 key) (hk : inI64 key)
    (hK : wpListIn F nF Tryz.prog ops Q rest (a.put o.dst (.bool (decide (key ∈ acc)))) w) : wpListIn F nF Tryz.prog ops Q (o :: rest) a w := by
  refine wpListIn_plain hg fun K' hK' => ?_
  unfold Oper.wpIn
  refine ⟨by simp [Oper.about, hop], ?_⟩
  rw [Oper.semAt_plain F _ _ (by rw [hop]; intro c hc'; cases hc')]
  simp [execOp, hop, hm, hx, run_set_lookup hown key hk, Result.andThen]
  exact hK' _ _ hK
theorem wpIn_set_put (hg : o.guard = none) (m x v : Operand) (hop : o.op = Op.mapUpdate 124 m x v) (b n : Nat) (acc : List Int) (key : Int)
    (hm : a.eval m = .map (some b)) (hown : OwnSet w b n acc) (hn : n < maxLen) (hx : a.eval x = .int .i64 key) (hv : a.eval v = .bool true) (hk : inI64 key)
    (hK : ∀ w', OwnSet w' b (n + 1) (key :: acc) → w.grownBy w' (some b) → wpListIn F nF Tryz.prog ops Q rest (a.put o.dst undef) w') : wpListIn F nF Tryz.prog ops Q (o :: rest) a w := by
  obtain ⟨D, h, h1, h2⟩ := hown
  refine wpListIn_mapUpdate_own w hg m x v 124 hop 3 4 (Maps.int_keyed Tryz.underlying3) Tryz.underlying124 _ b n D hm h hn _ _ (i64Lit key) hx hv (Maps.keyOf_int_mk Tryz.underlying3 hk) _ [] (plainElem_bool Tryz.underlying4 true) ?_
  intro w1 hown1 hg1
  refine hK w1 ⟨_, hown1, h1.put _ _, fun y hy => ?_⟩ hg1
  by_cases e : y = key
  · subst e
    rw [Maps.atKey_put_same (k := i64Lit y) h1 ((Maps.int_keyed Tryz.underlying3).key (Maps.keyOf_int_mk Tryz.underlying3 hk))]
    simp
  · rw [Maps.atKey_put_other (by unfold i64Lit; simpa using e), h2 y hy]
    simp [e]
end
theorem OwnSet.isMap {w : World} {b n : Nat} {acc : List Int} (h : OwnSet w b n acc) : ∀ cs t fr, w.heap[b]? ≠ some (.cells cs t fr) := by
  obtain ⟨D, h, _⟩ := h
  obtain ⟨es, ck, hh, _⟩ := h
  intro cs t fr e
  rw [hh] at e; cases e
theorem OwnSet.more {w : World} {b n m : Nat} {acc : List Int} (h : OwnSet w b n acc) (hm : n ≤ m) : OwnSet w b m acc := by
  obtain ⟨D, h, h1, h2⟩ := h
  exact ⟨D, h.mono hm, h1, h2⟩
theorem OwnSet.keepT {w w' : World} {b n : Nat} {acc : List Int} (h : OwnSet w b n acc) (hg : w.grownBy w' (some b)) : KeepT w w' :=
  KeepT.grown hg (fun k e cs t fr hk => by cases e; exact absurd hk (h.isMap cs t fr))
theorem ownSet_own {β : Type} (B b : Nat) (hb : b < B) (m : β → Nat) (f : β → List Int) : OwnFrom B (fun s W => OwnSet W b (m s) (f s)) := fun s X Y row hs hg hr =>
  hs.grown hg (fun e => by have := (hr b e.symm).1; omega)
/-- the anchors that are there after some errata -/
def accOf (acc : List Int) (l : List Err) : List Int := l.foldl (fun acc x => if x.kind = 2 then x.new :: acc else acc) acc
/-- each erratum finds its anchor -/
def anch : List Int → List Err → Bool
  | _, [] => true
  | acc, x :: l => decide (x.anchor ∈ acc) && anch (if x.kind = 2 then x.new :: acc else acc) l
theorem accOf_snoc (acc : List Int) (l : List Err) (x : Err) : accOf acc (l ++ [x]) = if x.kind = 2 then x.new :: accOf acc l else accOf acc l := by simp [accOf]
theorem anch_snoc (acc : List Int) (l : List Err) (x : Err) : anch acc (l ++ [x]) = (anch acc l && decide (x.anchor ∈ accOf acc l)) := by
  induction l generalizing acc with
  | nil => simp only [List.nil_append, anch, accOf, List.foldl_nil, Bool.and_true, Bool.true_and]; rfl
  | cons y l ih =>
    rw [List.cons_append, anch, anch, ih, Bool.and_assoc]
    rfl
theorem anch_append (acc : List Int) (l m : List Err) (h : anch acc l = false) : anch acc (l ++ m) = false := by
  induction l generalizing acc with
  | nil => simp [anch] at h
  | cons y l ih =>
    rw [anch, Bool.and_eq_false_iff] at h
    rw [List.cons_append, anch, Bool.and_eq_false_iff]
    exact h.imp id (ih _)
theorem anch_prefix {acc : List Int} {l m : List Err} (h : anch acc l = false) (hp : l <+: m) : anch acc m = false := by
  obtain ⟨k, rfl⟩ := hp
  exact anch_append acc l k h
/-- the errata themselves -/
def und {C : Err → Prop} (l : List {x : Err // C x}) : List Err := l.map (·.1)
theorem und_nil {C : Err → Prop} : und ([] : List {x : Err // C x}) = [] := rfl
theorem und_snoc {C : Err → Prop} (l : List {x : Err // C x}) (x : {x : Err // C x}) : und (l ++ [x]) = und l ++ [x.1] := by simp [und]
def Err.keyed (x : Err) : Prop := inI64 x.anchor ∧ inI64 x.new
def anchored (x : Vol) (errata : List Err) : Int := if anch (ancs x.paras).reverse (issuedL errata 99999) then 0 else 7
set_option maxHeartbeats 4000000 in
theorem anchored_any (v ev : Value) (x : Vol) (errata : List Err) (w : World) (hv : IsVol w v x) (hs : x.small) (he : RdE w ev errata) (hl : errata.length ≤ 1000000) (hk : ∀ y ∈ errata, y.keyed) (hkp : ∀ p ∈ x.paras, inI64 p.anchor) :
    Calls Tryz.prog 54 #[v, ev] w fun e w' => e = .returned (.int .i64 (anchored x errata)) ∧ Below w.heap.size w w' := by
  have hmm := @run_makeMap Tryz.prog
  obtain ⟨sv, rfl, A, c, rfl, hc, hm, hr⟩ := id hv
  obtain ⟨A0, c0, rfl, -⟩ := id he
  have hpl : x.paras.length ≤ 100000 := by
    have := take_paras_le x.parts x.parts.length hs.1 (fun p hp => (hs.2 p hp).1)
    rwa [List.take_length] at this
  have hpar : ∀ W, Below w.heap.size w W → Calls Tryz.prog 47 #[x.val (.slice A x.parts.length c)] W (ParasPost W x.paras) := fun W hW => paragraphs_any _ x W (hv.below hW) hs
  have R : Hid (anchored x errata = if anch (ancs x.paras).reverse (issuedL errata 99999) then 0 else 7) := Lib.hid rfl
  clear hv hs hr
  obtain ⟨n0, n1, n2, n3, ps⟩ := x
  dsimp only [Vol.val] at hpar R ⊢
  generalize anchored _ _ = r at R ⊢
  generalize (Vol.mk n0 n1 n2 n3 ps).paras = l at R hpar hpl hkp
  refine callsIn_wide.1 (callsIn_of_wp_marks (n := 9) Tryz.func54 rfl trivial ?_ rfl)
  simp only [Tryz.ntmps54, List.size_toArray, List.length_cons, List.length_nil, Nat.reduceAdd, Nat.reduceSub, Array.replicate_succ, Array.replicate_zero, List.push_toArray, List.append_toArray, List.nil_append, List.cons_append]
  gi_wp2
  obtain ⟨W4, hW4⟩ : ∃ W4, (((w.alloc (.cells #[.int .i64 n0, .int .i64 n1, .int .i64 n2, .int .i64 n3, .slice A ps.length c] 37)).alloc (.cells #[.int .i64 0] 32)).alloc (.map #[] 0)).alloc (.cells #[.map (some (w.heap.size + 1 + 1))] 124) = W4 := ⟨_, rfl⟩
  have bR : Boxed W4 (w.heap.size + 1) 32 (.int .i64 0) := by
    have h := ((Boxed.new (w.alloc (.cells #[.int .i64 n0, .int .i64 n1, .int .i64 n2, .int .i64 n3, .slice A ps.length c] 37)) 32 (.int .i64 0)).alloc (.map #[] 0)).alloc (.cells #[.map (some (w.heap.size + 1 + 1))] 124)
    rw [hW4, World.size_alloc] at h; exact h
  have bM : Boxed W4 (w.heap.size + 1 + 1 + 1) 124 (.map (some (w.heap.size + 1 + 1))) := by
    have h := Boxed.new (((w.alloc (.cells #[.int .i64 n0, .int .i64 n1, .int .i64 n2, .int .i64 n3, .slice A ps.length c] 37)).alloc (.cells #[.int .i64 0] 32)).alloc (.map #[] 0)) 124 (.map (some (w.heap.size + 1 + 1)))
    rw [hW4] at h; simpa using h
  have hS0 : OwnSet W4 (w.heap.size + 1 + 1) 0 [] := by
    have h := (OwnSet.made ((w.alloc (.cells #[.int .i64 n0, .int .i64 n1, .int .i64 n2, .int .i64 n3, .slice A ps.length c] 37)).alloc (.cells #[.int .i64 0] 32))).alloc (.cells #[.map (some (w.heap.size + 1 + 1))] 124)
    rw [World.size_alloc, World.size_alloc, hW4] at h; exact h
  have hB4 : Below w.heap.size w W4 := by
    rw [← hW4]
    exact ((((Below.refl _ w).alloc (Nat.le_refl _) _).alloc (by simp) _).alloc (by simp; omega) _).alloc (by simp; omega) _
  have hz4 : W4.heap.size = w.heap.size + 4 := by rw [← hW4]; simp
  rw [hW4]
  clear hW4
  refine ⟨trivial, ?_⟩
  refine (callsIn_wide.2 (hpar W4 hB4)).mono ?_
  rintro e w1 ⟨pv, rfl, hO, hB1⟩
  obtain ⟨A1, c1, rfl, hc1, -, hrow⟩ := id hO.rd
  have bR1 := bR.kept (grownBy_of_below hB1 none) (by simp)
  have bM1 := bM.kept (grownBy_of_below hB1 none) (by simp)
  have hS1 := hS0.below hB1
  have hz1 := hB1.size
  have hB01 := hB4.go hB1
  clear hpar bR bM hS0 hB4
  gi_wp2
  have hal : (ancs l).length = l.length := by simp [ancs]
  have hz5 : w.heap.size + 4 ≤ w1.heap.size := by omega
  rw [hz4] at hO
  clear hz1 hz4 hB1 hrow
  gi_loopw [13] (fun s13 wr => ∃ kk : Nat, kk ≤ l.length ∧ s13 = .int .i64 kk ∧ Aside (w1.grownBy wr (some (w.heap.size + 1 + 1)) ∧ OwnSet wr (w.heap.size + 1 + 1) kk ((ancs l).take kk).reverse)) (fun s13 _ => l.length - (intOf s13).toNat)
  case atStart => exact ⟨0, Nat.zero_le _, rfl, World.grownBy.refl _ _, hS1⟩
  case round =>
    obtain ⟨kk, hkk, rfl, A⟩ := hrel
    have hg1 := A.out.1
    have hS := A.out.2
    have bM := bM1.kept hg1 (by simp)
    have cM := bM.cell
    have lM := bM.lt
    by_cases hlt : kk < l.length
    · obtain ⟨A3, c3, e3, _, _, hr3⟩ := (hO.grown hg1 (by
        rcases hob : (Value.slice A1 l.length c1).ownBlock with _ | g
        · exact .inl rfl
        · right; intro e; injection e with e; have := (hO.lt g hob).1; omega)).rd
      obtain ⟨b, off, rfl, hbl, hrow⟩ := hr3 (by omega)
      simp only [Value.slice.injEq] at e3
      obtain ⟨rfl, -, rfl⟩ := e3
      clear hr3
      have hin := hkp _ (List.getElem_mem hlt)
      have hc' := hrow kk hlt
      have hga : Hid ((ancs l)[kk]'(by omega) = l[kk].anchor) := Lib.hid (by simp [ancs])
      have hrev : Hid (((ancs l).take (kk + 1)).reverse = l[kk].anchor :: ((ancs l).take kk).reverse) := Lib.hid (by
          rw [List.take_succ_eq_append_getElem (by omega), List.reverse_append, hga.out]; rfl)
      clear hga
      generalize l[kk] = y at hc' hin hrev
      obtain ⟨ya, yt⟩ := y
      dsimp only at hin hrev
      have c0 := hc' 0 _ rfl; have c1 := hc' 1 _ rfl
      clear hc' hrow
      have ek : EP.k = 2 := rfl
      simp only [Nat.add_zero, ek] at c0 c1
      clear ek
      have hkk2 : kk < maxLen := by unfold maxLen; omega
      have hS' := hS.alloc (.cells #[.int .i64 ya, .string yt] 67)
      clear A hS
      generalize ((ancs l).take kk).reverse = acc at hS' hrev
      gi_wp2_with (gi_at_mapUpdate; refine wpIn_set_put rfl _ _ _ rfl (w.heap.size + 1 + 1) kk acc ya rfl hS' hkk2 rfl rfl hin ?_; intro w3 hS3 hg3)
      go_roundw
      case rel =>
        refine ⟨kk + 1, by omega, by go_num, (hg1.trans (World.grownBy_alloc _ _ _)).trans hg3, ?_⟩
        rw [hrev.out]; exact hS3
      case measure => simp [intOf]; omega
    · have : kk = l.length := by omega
      subst this
      have bR := bR1.kept hg1 (by simp)
      have hB := hB01.grown hg1 (by omega) (fun k e => by cases e; omega)
      have hz6 : w.heap.size + 4 ≤ wr.heap.size := Nat.le_trans hz5 hg1.size
      rw [List.take_of_length_le (by omega)] at hS
      clear A hS1 hO hB01 bR1 bM1 hg1
      gi_wp2
      refine ⟨trivial, ?_⟩
      refine (callsIn_wide.2 (issued_any A0 errata.length c0 99999 wr)).mono ?_
      rintro e w2 ⟨rfl, h2⟩
      have hE2 : w2.heap[wr.heap.size]? = some (.cells #[.slice A0 errata.length c0] 39 (0, 0)) := by
        rw [← h2]; exact (Boxed.new wr 39 (.slice A0 errata.length c0)).alloc _
      have hT2 : w2.heap[wr.heap.size + 1]? = some (.cells #[.int .i64 99999] 3 (0, 0)) := by
        rw [← h2]; have h := Boxed.new (wr.alloc (.cells #[.slice A0 errata.length c0] 39)) 3 (.int .i64 99999); rw [World.size_alloc] at h; exact h
      have hBr : Below wr.heap.size wr w2 := by rw [← h2]; exact ((Below.refl _ _).alloc (Nat.le_refl _) _).alloc (by simp) _
      have hB2 := hB.go hBr
      have bR2 := bR.kept (grownBy_of_below hBr none) (by simp)
      have bM2 := bM.kept (grownBy_of_below hBr none) (by simp)
      have hS2 := hS.below hBr
      have hz2 := hBr.size
      clear h2 hB bR bM hS hBr cM lM hlt
      gi_wp2
      refine wpIn_rangeFunc_ownH (F := Fence.wide) (n := 9) rfl (by decide) (gf := 77) (lb := #[.pointer (some ⟨wr.heap.size, 0, none⟩), .pointer (some ⟨wr.heap.size + 1, 0, none⟩)]) rfl trivial (enters_of Tryz.func77 (by kernel_rfl) rfl)
        (issued1_stops 8 w2 wr.heap.size (wr.heap.size + 1) _ errata 99999 hE2 hT2 (he.below hB2) hl Err.keyed hk) KeepT.trans (fun W ll o o' _ hll hc _ => KeepT.putObj W ll o o' hll hc) (Below.refl _ _) (fun _ => rfl)
        (fun pre W => ((OwnSet W (w.heap.size + 1 + 1) (l.length + pre.length) (accOf (ancs l).reverse (und pre)) ∧ Boxed W (w.heap.size + 1) 32 (.int .i64 0)) ∧ Boxed W (w.heap.size + 1 + 1 + 1) 124 (.map (some (w.heap.size + 1 + 1)))) ∧ (anch (ancs l).reverse (und pre) = true ∧ Below w.heap.size w W))
        (fun c pre W => ((c = .ret ∧ anch (ancs l).reverse (und pre) = false) ∧ Boxed W (w.heap.size + 1) 32 (.int .i64 7)) ∧ Below w.heap.size w W)
        (OwnFrom.and (OwnFrom.and (OwnFrom.and (ownSet_own _ _ (by omega) _ _) (Go.Own.from (boxed_own _ _ (fun _ => .int .i64 0)) _)) (Go.Own.from (boxed_own _ _ (fun _ => .map (some (w.heap.size + 1 + 1)))) _)) (OwnFrom.and (ownFrom_pure _ _) (ownFrom_below (Nat.le_refl _) (by omega))))
        (fun c => OwnFrom.and (OwnFrom.and (ownFrom_pure _ _) (Go.Own.from (boxed_own _ _ (fun _ => .int .i64 7)) _)) (ownFrom_below (Nat.le_refl _) (by omega)))
        ⟨⟨⟨by simpa [accOf, und] using hS2, bR2⟩, bM2⟩, by simp [anch, und], hB2⟩
        (fun x a' W => ∃ Bx, w.heap.size + 1 < Bx ∧ W.heap[Bx]? = some (.cells x.1.enc.toArray 77 (0, 0)) ∧ a' = { tmps := #[.agg #[.int .i64 n0, .int .i64 n1, .int .i64 n2, .int .i64 n3, .slice A ps.length c], .slice A0 errata.length c0, .pointer (some ⟨w.heap.size, 0, none⟩), undef, .pointer (some ⟨w.heap.size + 1, 0, none⟩), .pointer (some ⟨w.heap.size + 1 + 1 + 1, 0, none⟩), undef, u7, .pointer (some ⟨Bx, 0, none⟩), .map (some (w.heap.size + 1 + 1)), .agg #[.int .i64 n0, .int .i64 n1, .int .i64 n2, .int .i64 n3, .slice A ps.length c], .slice A1 l.length c1, .int .i64 l.length, .int .i64 l.length, .bool false, u15, u16, u17, u18, u19, u20, .slice A0 errata.length c0, .func (.func 77) #[] #[.pointer (some ⟨wr.heap.size, 0, none⟩), .pointer (some ⟨wr.heap.size + 1, 0, none⟩)], x.1.val, undef, undef, undef, undef, undef, undef, undef, undef, undef, undef, undef], defers := [] })
        (fun x a' _ X Y row hs hg hr => by
          obtain ⟨Bx, h1, h2, h3⟩ := hs
          refine ⟨Bx, h1, ?_, h3⟩
          rw [hg.block Bx (Array.getElem?_eq_some_iff.1 h2).1 (fun e' => by
            obtain ⟨_, o, ho, hc⟩ := hr Bx e'.symm
            rw [h2] at ho; cases ho; cases hc)]
          exact h2)
        ?assign ?body ?done ?stop
      case assign =>
        rintro l' pre ⟨⟨y0, y1, y2, y3, y4, y5⟩, hy⟩ W K ⟨⟨⟨hs, bR3⟩, bM3⟩, ha, hB3⟩ hK
        dsimp only [Err.val]
        gi_wp2
        exact hK _ _ ((KeepsOthers.alloc _ _).from _) (KeepT.below ((Below.refl _ W).alloc (Nat.le_refl _) _)) ⟨⟨⟨hs.alloc _, bR3.alloc _⟩, bM3.alloc _⟩, ha, hB3.alloc hB3.size _⟩ ⟨W.heap.size, bR3.lt, World.alloc_heap_new W _, rfl⟩
      case body =>
        rintro l' pre ⟨⟨y0, y1, y2, y3, y4, y5⟩, hy⟩ a' W hl' ⟨r0, hr0⟩ ⟨⟨⟨hs, bR3⟩, bM3⟩, ha, hB3⟩ ⟨Bx, hBx, hX, rfl⟩ hlt
        have hX3 : W.cell? ⟨Bx, 3, none⟩ = some (.int .i64 y3) := by simp [World.cell?, hX, Err.enc]
        have hX2 : W.cell? ⟨Bx, 2, none⟩ = some (.int .u8 y2) := by simp [World.cell?, hX, Err.enc]
        have hX5 : W.cell? ⟨Bx, 5, none⟩ = some (.int .i64 y5) := by simp [World.cell?, hX, Err.enc]
        have cM := bM3.cell
        have cR := bR3.cell
        have fR := bR3.frozen
        have hy3 : inI64 y3 := hy.1
        have hy5 : inI64 y5 := hy.2
        have hsn := Lib.hid (anch_snoc (ancs l).reverse (und pre) ⟨y0, y1, y2, y3, y4, y5⟩)
        have hac := Lib.hid (accOf_snoc (ancs l).reverse (und pre) ⟨y0, y1, y2, y3, y4, y5⟩)
        have hmap := Lib.hid (und_snoc pre ⟨⟨y0, y1, y2, y3, y4, y5⟩, hy⟩)
        have hlen : Hid (l.length + pre.length + 1 = l.length + (pre ++ [(⟨⟨y0, y1, y2, y3, y4, y5⟩, hy⟩ : {x : Err // x.keyed})]).length) := Lib.hid (by simp; omega)
        rw [ha] at hsn
        dsimp only [Err.val] at hsn hac ⊢
        have hpl2 : l.length + pre.length < maxLen := by unfold maxLen; omega
        have hW : W.heap.size = W.heap.size := rfl
        clear hX he hkp hk hS2 bR2 bM2 hE2 hT2 hB2 R
        by_cases hin : y3 ∈ accOf (ancs l).reverse (und pre)
        · have hd : decide (y3 ∈ accOf (ancs l).reverse (und pre)) = true := by simpa using hin
          by_cases hk2 : y2 = 2
          · subst hk2
            gi_wp2_with (first | (gi_at_lookup; refine wpIn_set_lookup rfl _ _ rfl (w.heap.size + 1 + 1) _ _ y3 rfl hs rfl hy3 ?_; rw [hd]) | (gi_at_mapUpdate; refine wpIn_set_put rfl _ _ _ rfl (w.heap.size + 1 + 1) _ _ y5 rfl hs hpl2 rfl rfl hy5 ?_; intro w3 hS3 hg3))
            refine ⟨KeepsFrom.of_grownBy hg3 (fun j e => by cases e; omega), hs.keepT hg3, ⟨⟨?_, bR3.kept hg3 (by simp)⟩, bM3.kept hg3 (by simp)⟩, ?_, hB3.grown hg3 hB3.size (fun k e => by cases e; omega)⟩
            · rw [hmap.out, hac.out, ← hlen.out]; exact hS3
            · rw [hmap.out, hsn.out, decide_eq_true hin]; rfl
          · have hk2' : (y2 == 2) = false := by simpa using hk2
            gi_wp2_with (first | (gi_at_lookup; refine wpIn_set_lookup rfl _ _ rfl (w.heap.size + 1 + 1) _ _ y3 rfl hs rfl hy3 ?_; rw [hd]))
            refine ⟨KeepsFrom.refl _ _, KeepT.refl _, ⟨⟨?_, bR3⟩, bM3⟩, ?_, hB3⟩
            · rw [hmap.out, hac.out, if_neg hk2, ← hlen.out]; exact hs.more (by omega)
            · rw [hmap.out, hsn.out, decide_eq_true hin]; rfl
        · have hd : decide (y3 ∈ accOf (ancs l).reverse (und pre)) = false := by simpa using hin
          gi_wp2_with (first | (gi_at_lookup; refine wpIn_set_lookup rfl _ _ rfl (w.heap.size + 1 + 1) _ _ y3 rfl hs rfl hy3 ?_; rw [hd]))
          refine ⟨(KeepsOthers.setCell _ _ _).from _, ⟨⟨rfl, ?_⟩, bR3.set _⟩, hB3.setCell (p := ⟨w.heap.size + 1, 0, none⟩) (by simp) _⟩
          rw [hmap.out, hsn.out, decide_eq_false hin]; rfl
      case done =>
        rintro D xs W hD hSx ⟨⟨⟨hs, bR3⟩, bM3⟩, ha, hB3⟩ hK
        have HN : Hid (r = 0) := Lib.hid (by rw [R.out, if_pos (by rw [← hSx]; exact ha)])
        have cR := bR3.cell
        have fR := bR3.frozen
        clear he hkp hk hS2 bR2 bM2 hE2 hT2 hB2 R
        gi_wp2
        have hK' := (KeepsOthers.setCell W ⟨w.heap.size + 1, 0, none⟩ (.int .i64 0)).same D _ hK rfl
        refine ⟨by simp, .inl ⟨_, _, rfl, run_takeDeferred hK', ?_⟩⟩
        have hc5 := cell_kept (bR3.set (.int .i64 0)).cell (grownBy_putObj' _ D (.deferred none)) (fun r e => by cases e; exact ⟨_, hK', rfl⟩)
        refine ⟨.int .i64 0, ?_, ret_int HN.out.symm, (hB3.setCell (p := ⟨w.heap.size + 1, 0, none⟩) (by simp) _).trans (belowK_b (w := w2) (by omega) _ D _ _ (by omega) hK' rfl rfl)⟩
        simp [results, Tryz.f54, go_sem, hc5]
      case stop =>
        rintro D c pre W hD hpre ⟨⟨⟨rfl, hf⟩, bR3⟩, hB3⟩ hK
        have HN : Hid (r = 7) := Lib.hid (by rw [R.out, if_neg (by rw [anch_prefix hf hpre]; simp)])
        clear he hkp hk hS2 bR2 bM2 hE2 hT2 hB2 R
        gi_wp2
        refine ⟨by simp, .inl ⟨_, _, rfl, run_takeDeferred hK, ?_⟩⟩
        have hc5 := cell_kept bR3.cell (grownBy_putObj' _ D (.deferred none)) (fun r e => by cases e; exact ⟨_, hK, rfl⟩)
        refine ⟨.int .i64 7, ?_, ret_int HN.out.symm, hB3.trans (belowK_b (w := w2) (by omega) _ D _ _ (by omega) hK rfl rfl)⟩
        simp [results, Tryz.f54, go_sem, hc5]
end Go.Proofs.YtjkmdpejcgepkaaGreatDoor
