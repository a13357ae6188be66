/- The reference's list of errata in order. -/
import Derived.Test.YtjkmdpejcgepkaaGreatDoorEA
namespace Go.Proofs.YtjkmdpejcgepkaaGreatDoor
open Go.RowKit
def SortedPost (w : World) (er : List Err) (e : Ending) (w' : World) : Prop := ∃ v xs, e = .returned v ∧ Own EE 27 w' w.heap.size v xs ∧ (xs.Perm er ∧ xs.Pairwise fun a b => lessB b a = false) ∧ Below w.heap.size w w'
/-- a list that is being put in order: up to kk, but for the place mm -/
def SInv (er : List Err) (kk mm : Nat) (xs : List Err) : Prop := xs.Perm er ∧ ∀ i j (hj : j < xs.length) (hij : i < j), j ≤ kk → j ≠ mm → lessB xs[j] (xs[i]'(by omega)) = false
theorem sinv_start (er : List Err) : SInv er 1 1 er := ⟨List.Perm.refl _, fun i j hj hij h1 h2 => by omega⟩
theorem sinv_zero {er xs : List Err} {kk : Nat} (h : SInv er kk 0 xs) : SInv er (kk + 1) (kk + 1) xs := ⟨h.1, fun i j hj hij h1 h2 => h.2 i j hj hij (by omega) (by omega)⟩
theorem less_trans {a b c : Err} (h1 : lessB a b = false) (h2 : lessB b c = false) : lessB a c = false := by
  unfold lessB at *
  simp only [decide_eq_false_iff_not] at *
  omega
theorem less_asymm {a b : Err} (h1 : lessB a b = true) : lessB b a = false := by
  unfold lessB at *
  simp only [decide_eq_true_eq, decide_eq_false_iff_not] at *
  omega
theorem sinv_stop {er xs : List Err} {kk mm j0 : Nat} (h : SInv er kk mm xs) (hm : mm = j0 + 1) (hl : mm < xs.length) (hj0 : j0 < xs.length) (hmk : mm ≤ kk) (hlb : lessB xs[mm] xs[j0] = false) : SInv er (kk + 1) (kk + 1) xs := by
  refine ⟨h.1, fun i j hj hij h1 h2 => ?_⟩
  by_cases e : j = mm
  · subst e
    by_cases e2 : i = j0
    · subst e2; exact hlb
    · exact less_trans hlb (h.2 i j0 hj0 (by omega) (by omega) (by omega))
  · exact h.2 i j hj hij (by omega) e
theorem sinv_swap {er xs : List Err} {kk mm j0 : Nat} (h : SInv er kk mm xs) (hm : mm = j0 + 1) (hl : mm < xs.length) (hj0 : j0 < xs.length) (hmk : mm ≤ kk) (hlb : lessB xs[mm] xs[j0] = true) : SInv er kk j0 ((xs.set mm xs[j0]).set j0 xs[mm]) := by
  refine ⟨(List.set_set_perm hl hj0).trans h.1, fun i j hj hij h1 h2 => ?_⟩
  have hj' : j < xs.length := by simpa using hj
  simp only [List.getElem_set]
  by_cases e : j = mm
  · subst e
    rw [if_neg (by omega), if_pos rfl]
    by_cases e2 : i = j0
    · subst e2
      rw [if_pos rfl]; exact less_asymm hlb
    · rw [if_neg (by omega), if_neg (by omega)]
      exact h.2 i j0 hj0 (by omega) (by omega) (by omega)
  · rw [if_neg (by omega), if_neg (by omega)]
    by_cases e2 : j0 = i
    · rw [if_pos e2]; exact h.2 mm j hj' (by omega) h1 e
    · rw [if_neg e2]
      by_cases e3 : mm = i
      · rw [if_pos e3]; exact h.2 j0 j hj' (by omega) h1 e
      · rw [if_neg e3]; exact h.2 i j hj' hij h1 e
theorem sinv_end {er xs : List Err} {kk : Nat} (h : SInv er kk kk xs) (hk : xs.length ≤ kk) : xs.Perm er ∧ xs.Pairwise fun a b => lessB b a = false := by
  refine ⟨h.1, ?_⟩
  rw [List.pairwise_iff_getElem]
  intro i j hi hj hij
  exact h.2 i j hj hij (by omega) (by omega)
theorem Tryz.infoRErr2 : (Tryz.prog.info? 27).map (fun i => (i.zero, i.size, i.bytes)) = some (some (.agg #[.int .i64 0, .int .i64 0, .int .u8 0, .int .i64 0, .string ⟨#[]⟩, .int .i64 0]), 6, 56) := by kernel_rfl
theorem Own.errCells {w : World} {base n c : Nat} {A : Option Addr} {xs : List Err} (h : Own EE 27 w base (.slice A n c) xs) (hn : xs.length = n) (h0 : 0 < n) :
    ∃ g, A = some ⟨g, 0, none⟩ ∧ base ≤ g ∧ g < w.heap.size ∧ (∃ cur, w.heap[g]? = some (.cells cur 27 (0, 0))) ∧ ∀ j (hj : j < xs.length), w.cell? ⟨g, j * 6, none⟩ = some (.int .i64 xs[j].number) ∧ w.cell? ⟨g, j * 6 + 1, none⟩ = some (.int .i64 xs[j].day) ∧ w.cell? ⟨g, j * 6 + 2, none⟩ = some (.int .u8 xs[j].kind) ∧ w.cell? ⟨g, j * 6 + 3, none⟩ = some (.int .i64 xs[j].anchor) ∧ w.cell? ⟨g, j * 6 + 4, none⟩ = some (.string xs[j].text) ∧ w.cell? ⟨g, j * 6 + 5, none⟩ = some (.int .i64 xs[j].new) := by
  obtain ⟨g, cap, cur, e, hb, hh, hc⟩ := h.cells_at (by omega)
  cases e
  exact ⟨g, rfl, hb, (Array.getElem?_eq_some_iff.1 hh).1, ⟨cur, hh⟩, fun j hj => ⟨hc j hj 0 _ rfl, hc j hj 1 _ rfl, hc j hj 2 _ rfl, hc j hj 3 _ rfl, hc j hj 4 _ rfl, hc j hj 5 _ rfl⟩⟩
theorem Own.storeAt {w : World} {base g n c : Nat} {xs : List Err} {x y : Err} {u : Value} (j : Nat) (hj : j < xs.length) (h : Own EE 27 w base (.slice (some ⟨g, 0, none⟩) n c) (xs.set j x)) (i : Nat) (hi : i < 6) (hy : EE.f y = (EE.f x).set i u) :
    Own EE 27 (w.setCell ⟨g, j * 6 + i, none⟩ u) base (.slice (some ⟨g, 0, none⟩) n c) (xs.set j y) := by
  have h1 := h.store (g := g) rfl j (by simpa using hj) i hi y u (by rw [List.getElem_set_self]; exact hy)
  rw [List.set_set] at h1
  exact h1
theorem Own.store6 {w : World} {base g n c : Nat} {xs : List Err} (h : Own EE 27 w base (.slice (some ⟨g, 0, none⟩) n c) xs) (j : Nat) (hj : j < xs.length) (y : Err) :
    Own EE 27 ((((((w.setCell ⟨g, j * 6, none⟩ (.int .i64 y.number)).setCell ⟨g, j * 6 + 1, none⟩ (.int .i64 y.day)).setCell ⟨g, j * 6 + 2, none⟩ (.int .u8 y.kind)).setCell ⟨g, j * 6 + 3, none⟩ (.int .i64 y.anchor)).setCell ⟨g, j * 6 + 4, none⟩ (.string y.text)).setCell ⟨g, j * 6 + 5, none⟩ (.int .i64 y.new)) base (.slice (some ⟨g, 0, none⟩) n c) (xs.set j y) := by
  obtain ⟨y0, y1, y2, y3, y4, y5⟩ := y
  have hx : xs.set j xs[j] = xs := List.set_getElem_self hj
  rw [← hx] at h
  generalize hxx : xs[j] = x at h
  obtain ⟨x0, x1, x2, x3, x4, x5⟩ := x
  have s0 := Own.storeAt (y := ⟨y0, x1, x2, x3, x4, x5⟩) j hj h 0 (by decide) rfl
  have s1 := Own.storeAt (y := ⟨y0, y1, x2, x3, x4, x5⟩) j hj s0 1 (by decide) rfl
  have s2 := Own.storeAt (y := ⟨y0, y1, y2, x3, x4, x5⟩) j hj s1 2 (by decide) rfl
  have s3 := Own.storeAt (y := ⟨y0, y1, y2, y3, x4, x5⟩) j hj s2 3 (by decide) rfl
  have s4 := Own.storeAt (y := ⟨y0, y1, y2, y3, y4, x5⟩) j hj s3 4 (by decide) rfl
  exact Own.storeAt (y := ⟨y0, y1, y2, y3, y4, y5⟩) j hj s4 5 (by decide) rfl
theorem below_set6 {B : Nat} {a w : World} (h : Below B a w) {g : Nat} (hg : B ≤ g) (o0 o1 o2 o3 o4 o5 : Nat) (v0 v1 v2 v3 v4 v5 : Value) :
    Below B a ((((((w.setCell ⟨g, o0, none⟩ v0).setCell ⟨g, o1, none⟩ v1).setCell ⟨g, o2, none⟩ v2).setCell ⟨g, o3, none⟩ v3).setCell ⟨g, o4, none⟩ v4).setCell ⟨g, o5, none⟩ v5) :=
  (((((h.setCell hg _).setCell hg _).setCell hg _).setCell hg _).setCell hg _).setCell hg _
set_option maxHeartbeats 4000000 in
set_option maxRecDepth 100000 in
theorem rsorted_any (v : Value) (er : List Err) (w : World) (he : RdE w v er) (hl : er.length ≤ 1000000) : Calls Tryz.prog 29 #[v] w (SortedPost w er) := by
  obtain ⟨A0, c0, rfl, hc0, hm0, hr0⟩ := id he
  have hO := Own.empty_lit EE 27 w w.heap.size (Nat.le_refl _)
  have hR := Rd.below he ((Below.refl _ w).alloc (Nat.le_refl _) (.cells #[] 27))
  have hB : Below w.heap.size w (w.alloc (.cells #[] 27)) := (Below.refl _ _).alloc (Nat.le_refl _) _
  clear hr0 he
  have HS0 : Hid (SInv er 1 1 er) := Lib.hid (sinv_start er)
  have HPOST : Hid (∀ v xs w' kk, Own EE 27 w' w.heap.size v xs → xs.length ≤ kk → SInv er kk kk xs → Below w.heap.size w w' → SortedPost w er (.returned v) w') := Lib.hid fun v xs w' kk a hk b c => ⟨v, xs, rfl, a, sinv_end b hk, c⟩
  go_enter Tryz.func29, Tryz.ntmps29
  go_wp2_with (at_builtin; refine wp_append_rd EE w.heap.size rfl _ _ 25 27 _ 56 rfl Tryz.underlying25 Tryz.infoRErr2 rfl (by decide) _ _ [] er rfl rfl hO hR (by simp) (by simp; omega) ?_; intro v1 w1 hO1 hg1 hb1 hat1)
  have hO2 : Own EE 27 w1 w.heap.size v1 er := by simpa using hO1
  obtain ⟨A1, c1, rfl, -⟩ := id hO2.rd
  clear hO1 hO hR hg1 hat1
  have hBB := hB.trans hb1
  clear hB hb1
  generalize hn : er.length = n at *
  go_loopg [4, 5] n (fun gg s4 s5 wr => ∃ kk : Nat, 1 ≤ kk ∧ kk ≤ n + 1 ∧ n - kk ≤ gg ∧ s4 = .int .i64 kk ∧ Aside (∃ xs, Own EE 27 wr w.heap.size (.slice A1 n c1) xs ∧ (xs.length = n ∧ SInv er kk kk xs) ∧ Below w.heap.size w wr))
  case atStart => exact ⟨1, Nat.le_refl _, by omega, by omega, rfl, er, hO2, ⟨hn, HS0.out⟩, hBB⟩
  case round =>
    obtain ⟨kk, hk1, hkk, hg, rfl, A2⟩ := hrel
    clear hO2 hBB
    by_cases hlt : kk < n
    · rename World => wo
      go_wp2
      go_loopg [5] kk (fun gg s5 wr => ∃ mm : Nat, mm ≤ kk ∧ mm ≤ gg ∧ s5 = .int .i64 mm ∧ Aside (∃ xs, Own EE 27 wr w.heap.size (.slice A1 n c1) xs ∧ (xs.length = n ∧ SInv er kk mm xs) ∧ Below w.heap.size w wr))
      case atStart => exact ⟨kk, Nat.le_refl _, Nat.le_refl _, rfl, A2.out⟩
      case round =>
        obtain ⟨mm, hmm, hg2, rfl, A3⟩ := hrel
        clear A2
        rcases Nat.eq_zero_or_pos mm with rfl | hpos
        · have A4 := A3
          clear A3
          go_wp2
          go_quiet (skip)
          go_wp2
          go_roundg (n - (kk + 1))
          case measure => omega
          case rel =>
            obtain ⟨xs, h1, h2, h3⟩ := A4.out
            exact ⟨kk + 1, by omega, by omega, by omega, by go_num, xs, h1, ⟨h2.1, sinv_zero h2.2⟩, h3.drewN _⟩
        · obtain ⟨j, hmj⟩ : ∃ j, mm = j + 1 := ⟨mm - 1, by omega⟩
          obtain ⟨xs, hO, ⟨hxs, hsi⟩, hB⟩ := A3.out
          have HSV := Lib.hid hsi
          clear A3 hsi
          obtain ⟨g, rfl, hgb, hgl, ⟨cur, hcur⟩, hcell⟩ := hO.errCells hxs (by omega)
          have hjl : j < xs.length := by omega
          have hml : mm < xs.length := by omega
          obtain ⟨p0, p1, p2, p3, p4, p5⟩ := hcell j hjl
          obtain ⟨q0, q1, q2, q3, q4, q5⟩ := hcell mm hml
          clear hcell
          generalize hx : xs[j] = x at p0 p1 p2 p3 p4 p5
          generalize hy : xs[mm] = y at q0 q1 q2 q3 q4 q5
          obtain ⟨x0, x1, x2, x3, x4, x5⟩ := x
          obtain ⟨y0, y1, y2, y3, y4, y5⟩ := y
          dsimp only at p0 p1 p2 p3 p4 p5 q0 q1 q2 q3 q4 q5
          have hsub : IntKind.i64.wrap ((mm : Int) - 1) = (j : Int) := by rw [IntKind.wrap_i64]; omega
          have hgt : decide ((0 : Int) < ↑mm) = true := by simpa using hpos
          have i1 : (0 : Int) ≤ ↑mm := by omega
          have i2 : (mm : Int) < (n : Int) := by omega
          have i3 : (0 : Int) ≤ ↑j := by omega
          have i4 : (j : Int) < (n : Int) := by omega
          have CE : Hid (∀ w4, Below wr.drew.heap.size wr.drew w4 → w4.cell? ⟨g, j * 6, none⟩ = some (.int .i64 x0) ∧ w4.cell? ⟨g, j * 6 + 1, none⟩ = some (.int .i64 x1) ∧ w4.cell? ⟨g, j * 6 + 2, none⟩ = some (.int .u8 x2) ∧ w4.cell? ⟨g, j * 6 + 3, none⟩ = some (.int .i64 x3) ∧ w4.cell? ⟨g, j * 6 + 4, none⟩ = some (.string x4) ∧ w4.cell? ⟨g, j * 6 + 5, none⟩ = some (.int .i64 x5) ∧
              w4.cell? ⟨g, mm * 6, none⟩ = some (.int .i64 y0) ∧ w4.cell? ⟨g, mm * 6 + 1, none⟩ = some (.int .i64 y1) ∧ w4.cell? ⟨g, mm * 6 + 2, none⟩ = some (.int .u8 y2) ∧ w4.cell? ⟨g, mm * 6 + 3, none⟩ = some (.int .i64 y3) ∧ w4.cell? ⟨g, mm * 6 + 4, none⟩ = some (.string y4) ∧ w4.cell? ⟨g, mm * 6 + 5, none⟩ = some (.int .i64 y5)) := Lib.hid fun w4 h4 => by
            have hc4 : ∀ o, w4.cell? ⟨g, o, none⟩ = wr.cell? ⟨g, o, none⟩ := fun o => h4.cell (p := ⟨g, o, none⟩) hgl
            simp only [hc4]
            exact ⟨p0, p1, p2, p3, p4, p5, q0, q1, q2, q3, q4, q5⟩
          have HOO := Lib.hid hO; have HBB := Lib.hid hB; have HX := Lib.hid hx; have HY := Lib.hid hy; have HMJ := Lib.hid hmj
          have HXS := Lib.hid hxs; have HCU := Lib.hid hcur
          clear hO hB hx hy hmj hcur hxs
          have hB4' : ∀ {w4}, Below wr.drew.heap.size wr.drew w4 → Below wr.heap.size wr w4 := fun h => ⟨h.os, h.tape, h.output, h.size, h.block⟩
          have hless := less_any ⟨y0, y1, y2, y3, y4, y5⟩ ⟨x0, x1, x2, x3, x4, x5⟩ wr.drew
          have HLB : Hid (∃ lb, lessB ⟨y0, y1, y2, y3, y4, y5⟩ ⟨x0, x1, x2, x3, x4, x5⟩ = lb) := Lib.hid ⟨_, rfl⟩
          obtain ⟨lb, hlb⟩ := HLB.out
          rw [hlb] at hless
          have HLB := Lib.hid hlb
          clear hlb
          dsimp only [Err.val] at hless
          go_wp2
          go_region_held3 (fun w' => w'.cell? ⟨g, j * 6, none⟩ = some (.int .i64 x0) ∧ w'.cell? ⟨g, j * 6 + 1, none⟩ = some (.int .i64 x1) ∧ w'.cell? ⟨g, j * 6 + 2, none⟩ = some (.int .u8 x2) ∧ w'.cell? ⟨g, j * 6 + 3, none⟩ = some (.int .i64 x3) ∧ w'.cell? ⟨g, j * 6 + 4, none⟩ = some (.string x4) ∧ w'.cell? ⟨g, j * 6 + 5, none⟩ = some (.int .i64 x5) ∧
              w'.cell? ⟨g, mm * 6, none⟩ = some (.int .i64 y0) ∧ w'.cell? ⟨g, mm * 6 + 1, none⟩ = some (.int .i64 y1) ∧ w'.cell? ⟨g, mm * 6 + 2, none⟩ = some (.int .u8 y2) ∧ w'.cell? ⟨g, mm * 6 + 3, none⟩ = some (.int .i64 y3) ∧ w'.cell? ⟨g, mm * 6 + 4, none⟩ = some (.string y4) ∧ w'.cell? ⟨g, mm * 6 + 5, none⟩ = some (.int .i64 y5)) (go_keep)
            (first | (go_at_call 49; refine hless.mono ?_; rintro e w4 ⟨rfl, hb4⟩; obtain ⟨h0, h1, h2, h3, h4, h5, h6, h7, h8, h9, h10, h11⟩ := CE.out w4 hb4))
          have HB4 := Lib.hid (HBB.out.trans ((hB4' hb4).mono (HBB.out.size)))
          have HO4 : Hid (Own EE 27 w4 w.heap.size (.slice (some ⟨g, 0, none⟩) n c1) xs) := Lib.hid (HOO.out.below (hB4' hb4))
          have hcu4 : w4.heap[g]? = some (.cells cur 27 (0, 0)) := by rw [(hB4' hb4).block g hgl]; exact HCU.out
          cases lb
          · clear CE hless hb4 hcu4
            go_wp2
            go_roundg (n - (kk + 1))
            case measure => omega
            case rel =>
              have hxs := HXS.out; have hmj := HMJ.out
              exact ⟨kk + 1, by omega, by omega, by omega, by go_num, xs, HO4.out, ⟨hxs, sinv_stop HSV.out hmj hml hjl hmm (by rw [HX.out, HY.out]; exact HLB.out)⟩, HB4.out⟩
          · have hfr : ∀ o, w4.frozen? ⟨g, o, none⟩ = false := fun o => by simp [World.frozen?, hcu4]
            have a1 : ¬ j * 6 = mm * 6 + 1 := by have := HMJ.out; omega
            have b1 : ¬ j * 6 + 1 = mm * 6 := by have := HMJ.out; omega
            have a2 : ¬ j * 6 = mm * 6 + 2 := by have := HMJ.out; omega
            have b2 : ¬ j * 6 + 2 = mm * 6 := by have := HMJ.out; omega
            have a3 : ¬ j * 6 = mm * 6 + 3 := by have := HMJ.out; omega
            have b3 : ¬ j * 6 + 3 = mm * 6 := by have := HMJ.out; omega
            have a4 : ¬ j * 6 = mm * 6 + 4 := by have := HMJ.out; omega
            have b4 : ¬ j * 6 + 4 = mm * 6 := by have := HMJ.out; omega
            have a5 : ¬ j * 6 = mm * 6 + 5 := by have := HMJ.out; omega
            have b5 : ¬ j * 6 + 5 = mm * 6 := by have := HMJ.out; omega
            have a0 : ¬ j = mm := by have := HMJ.out; omega
            clear CE hless hb4 hcu4 p0 p1 p2 p3 p4 p5 q0 q1 q2 q3 q4 q5
            go_wp2
            go_region
            go_wp2
            go_roundg j
            case measure => have := HMJ.out; omega
            case rel =>
              have hjl2 : j < (xs.set mm ⟨x0, x1, x2, x3, x4, x5⟩).length := by simpa using hjl
              refine ⟨j, by have := HMJ.out; omega, Nat.le_refl _, by go_num, _, ((HO4.out.store6 mm hml ⟨x0, x1, x2, x3, x4, x5⟩).store6 j hjl2 ⟨y0, y1, y2, y3, y4, y5⟩).drew, ⟨by simpa using HXS.out, ?_⟩, ?_⟩
              · have h1 := sinv_swap HSV.out HMJ.out hml hjl hmm (by rw [HX.out, HY.out]; exact HLB.out)
                rw [HX.out, HY.out] at h1; exact h1
              · exact (below_set6 (below_set6 HB4.out hgb _ _ _ _ _ _ _ _ _ _ _ _) hgb _ _ _ _ _ _ _ _ _ _ _ _).drew
    · obtain ⟨xs, h1, h2, h3⟩ := A2.out
      have HP : Hid (SortedPost w er (.returned (.slice A1 n c1)) wr) := Lib.hid (HPOST.out _ xs wr kk h1 (by rw [h2.1]; omega) h2.2 h3)
      clear A2 h1 h2 h3
      go_wp2
      go_ret
      exact HP.out
end Go.Proofs.YtjkmdpejcgepkaaGreatDoor
