/- The closed question: for the program. -/
import Derived.Test.YtjkmdpejcgepkaaGreatDoorEA
import Derived.Test.YtjkmdpejcgepkaaGreatDoorD7
import Derived.Test.YtjkmdpejcgepkaaGreatDoorP1
import Derived.Deep.CutRange
import Derived.Deep.RegionHeld3
namespace Go.Proofs.YtjkmdpejcgepkaaGreatDoor
open Go.RowKit
def sCol : ByteArray := ⟨#[118, 111, 108, 46, 32, 51, 44, 32, 99, 111, 108, 46, 32, 50, 44, 32, 108, 46, 32, 49]⟩
def sPar : ByteArray := ⟨#[118, 111, 108, 46, 32, 51, 44, 32, 52, 48, 44, 32, 112, 97, 114, 46, 32, 50]⟩
def sL3 : ByteArray := ⟨#[118, 111, 108, 46, 32, 51, 44, 32, 99, 111, 108, 46, 32, 49, 44, 32, 108, 46, 32, 51]⟩
def paras3 : List Para := [⟨20, sChair⟩, ⟨12, sSaid⟩, ⟨15, sBill⟩]
def places3 : List Plc := [⟨11, 1, 1, 3⟩, ⟨12, 2, 1, 2⟩, ⟨15, 3, 1, 2⟩]
theorem three_read : readE vol3 err3 60 = 0 ∧ readL vol3 err3 60 = paras3 := by
  constructor <;> kernel_rfl
theorem three_places : checkE vol3 err3 = 0 ∧ placesL vol3 err3 = places3 := by
  constructor <;> kernel_rfl
theorem three_cite : citeE vol3 err3 12 0 0 = (sCol, 0) ∧ citeE vol3 err3 12 1 0 = (sPar, 0) := by
  constructor <;> kernel_rfl
theorem three_res : resolveE vol3 err3 sL3.data.toList = (11, 50, 0) := by kernel_rfl
theorem vol3_small : vol3.small := by
  refine ⟨by decide, fun p hp => ?_⟩
  simp only [vol3, List.mem_cons, List.not_mem_nil, or_false] at hp
  rcases hp with rfl | rfl <;> simp <;> decide
def V3 (A : Option Addr) (c : Nat) : Value := .agg #[.int .i64 3, .int .i64 50, .int .i64 3, .int .i64 10, .slice A 2 c]
def C3 (A : Option Addr) (c : Nat) : Obj := .cells #[.int .i64 3, .int .i64 50, .int .i64 3, .int .i64 10, .slice A 2 c] 37
structure Mid (w1 : World) (A : Option Addr) (c : Nat) (A0 : Option Addr) (c0 : Nat) (W : World) : Prop where
  k0 : W.cell? ⟨w1.heap.size, 0, none⟩ = some (.int .i64 3)
  k1 : W.cell? ⟨w1.heap.size, 1, none⟩ = some (.int .i64 50)
  k2 : W.cell? ⟨w1.heap.size, 2, none⟩ = some (.int .i64 3)
  k3 : W.cell? ⟨w1.heap.size, 3, none⟩ = some (.int .i64 10)
  k4 : W.cell? ⟨w1.heap.size, 4, none⟩ = some (.slice A 2 c)
  vol : IsVol W (.agg #[.int .i64 3, .int .i64 50, .int .i64 3, .int .i64 10, .slice A 2 c]) vol3
  err : RdE W (.slice A0 3 c0) err3
  glob : Glob W
theorem mid_of {w1 : World} {A : Option Addr} {c : Nat} {A0 : Option Addr} {c0 : Nat} (hV : IsVol w1 (.agg #[.int .i64 3, .int .i64 50, .int .i64 3, .int .i64 10, .slice A 2 c]) vol3) (hE : RdE w1 (.slice A0 3 c0) err3) (hG : Glob w1) :
    Mid w1 A c A0 c0 (w1.alloc (.cells #[.int .i64 3, .int .i64 50, .int .i64 3, .int .i64 10, .slice A 2 c] 37)) := by
  have hB : Below w1.heap.size w1 (w1.alloc (.cells #[.int .i64 3, .int .i64 50, .int .i64 3, .int .i64 10, .slice A 2 c] 37)) := (Below.refl _ _).alloc (Nat.le_refl _) _
  exact ⟨by simp [go_sem], by simp [go_sem], by simp [go_sem], by simp [go_sem], by simp [go_sem], hV.below hB, Rd.below hE hB, hG.below hB⟩
theorem Mid.below {w1 : World} {A : Option Addr} {c : Nat} {A0 : Option Addr} {c0 : Nat} {W W' : World} (h : Mid w1 A c A0 c0 W) (hB : Below W.heap.size W W') : Mid w1 A c A0 c0 W' := by
  have hlt : w1.heap.size < W.heap.size := by
    have := h.k0
    unfold World.cell? at this
    cases hh : W.heap[w1.heap.size]? with
    | none => simp [hh] at this
    | some o => exact (Array.getElem?_eq_some_iff.1 hh).1
  exact ⟨by rw [hB.cell (p := ⟨w1.heap.size, _, none⟩) hlt]; exact h.k0, by rw [hB.cell (p := ⟨w1.heap.size, _, none⟩) hlt]; exact h.k1, by rw [hB.cell (p := ⟨w1.heap.size, _, none⟩) hlt]; exact h.k2, by rw [hB.cell (p := ⟨w1.heap.size, _, none⟩) hlt]; exact h.k3, by rw [hB.cell (p := ⟨w1.heap.size, _, none⟩) hlt]; exact h.k4, h.vol.below hB, Rd.below h.err hB, h.glob.below hB⟩
theorem err3_fits : ∀ y ∈ err3, y.fits := by
  intro y hy
  simp only [err3, List.mem_cons, List.not_mem_nil, or_false] at hy
  rcases hy with rfl | rfl | rfl <;> (unfold Err.fits; decide)
theorem mid_read {w1 : World} {A : Option Addr} {c : Nat} {A0 : Option Addr} {c0 : Nat} {W : World} (h : Mid w1 A c A0 c0 W) :
    Calls Tryz.prog 13 #[.agg #[.int .i64 3, .int .i64 50, .int .i64 3, .int .i64 10, .slice A 2 c], .slice A0 3 c0, .int .i64 60] W fun e w' => ∃ A2 c2, e = .returned (.tuple #[.slice A2 3 c2, .int .i64 0]) ∧ RdP w' (.slice A2 3 c2) paras3 ∧ Mid w1 A c A0 c0 w' ∧ Below W.heap.size W w' := by
  refine (Read_any _ _ vol3 err3 60 W h.vol vol3_small h.err (by decide) err3_fits).mono ?_
  rw [three_read.1, three_read.2]
  rintro e w' ⟨v, rfl, ho, hb⟩
  obtain ⟨A2, c2, rfl, -⟩ := id ho.rd
  exact ⟨A2, c2, rfl, ho.rd, h.below hb, hb⟩
theorem mid_print {w1 : World} {A : Option Addr} {c : Nat} {A0 : Option Addr} {c0 : Nat} {W : World} (h : Mid w1 A c A0 c0 W) :
    Calls Tryz.prog 17 #[.agg #[.int .i64 3, .int .i64 50, .int .i64 3, .int .i64 10, .slice A 2 c], .slice A0 3 c0] W fun e w' => ∃ A2 c2, e = .returned (.tuple #[.slice A2 3 c2, .int .i64 0]) ∧ Rd EPl.f EPl.k w' (.slice A2 3 c2) places3 ∧ Mid w1 A c A0 c0 w' ∧ Below W.heap.size W w' := by
  refine (Print_any _ _ vol3 err3 W h.vol vol3_small h.err (by decide) err3_fits).mono ?_
  rw [three_places.1, three_places.2]
  rintro e w' ⟨v, rfl, ho, hb⟩
  obtain ⟨A2, c2, rfl, -⟩ := id ho.rd
  exact ⟨A2, c2, rfl, ho.rd, h.below hb, hb⟩
theorem mid_cite0 {w1 : World} {A : Option Addr} {c : Nat} {A0 : Option Addr} {c0 : Nat} {W : World} (h : Mid w1 A c A0 c0 W) :
    Calls Tryz.prog 20 #[.agg #[.int .i64 3, .int .i64 50, .int .i64 3, .int .i64 10, .slice A 2 c], .slice A0 3 c0, .int .i64 12, .int .u8 0, .int .i64 0] W fun e w' => e = .returned (.tuple #[.string sCol, .int .i64 0]) ∧ Mid w1 A c A0 c0 w' ∧ Below W.heap.size W w' := by
  refine (Cite_any _ _ vol3 err3 12 0 0 W h.vol vol3_small h.err (by decide) err3_fits (by decide) (by decide) h.glob).mono ?_
  rw [three_cite.1]
  rintro e w' ⟨rfl, hb⟩
  exact ⟨rfl, h.below hb, hb⟩
theorem mid_cite1 {w1 : World} {A : Option Addr} {c : Nat} {A0 : Option Addr} {c0 : Nat} {W : World} (h : Mid w1 A c A0 c0 W) :
    Calls Tryz.prog 20 #[.agg #[.int .i64 3, .int .i64 50, .int .i64 3, .int .i64 10, .slice A 2 c], .slice A0 3 c0, .int .i64 12, .int .u8 1, .int .i64 0] W fun e w' => e = .returned (.tuple #[.string sPar, .int .i64 0]) ∧ Mid w1 A c A0 c0 w' ∧ Below W.heap.size W w' := by
  refine (Cite_any _ _ vol3 err3 12 1 0 W h.vol vol3_small h.err (by decide) err3_fits (by decide) (by decide) h.glob).mono ?_
  rw [three_cite.2]
  rintro e w' ⟨rfl, hb⟩
  exact ⟨rfl, h.below hb, hb⟩
theorem mid_res {w1 : World} {A : Option Addr} {c : Nat} {A0 : Option Addr} {c0 : Nat} {W : World} (h : Mid w1 A c A0 c0 W) :
    Calls Tryz.prog 21 #[.agg #[.int .i64 3, .int .i64 50, .int .i64 3, .int .i64 10, .slice A 2 c], .slice A0 3 c0, .string sL3] W fun e w' => e = .returned (.tuple #[.int .i64 11, .int .i64 50, .int .i64 0]) ∧ Mid w1 A c A0 c0 w' ∧ Below W.heap.size W w' := by
  refine (Resolve_any _ _ vol3 err3 sL3 W h.vol vol3_small h.err (by decide) err3_fits (by decide) h.glob).mono ?_
  rw [three_res]
  rintro e w' ⟨rfl, hb⟩
  exact ⟨rfl, h.below hb, hb⟩
end Go.Proofs.YtjkmdpejcgepkaaGreatDoor
/- The closed question: for the program, the walk. -/
namespace Go.Proofs.YtjkmdpejcgepkaaGreatDoor
open Go.RowKit
theorem cmp_paras {w1 : World} {A : Option Addr} {c : Nat} {A0 : Option Addr} {c0 : Nat} {W : World} (h : Mid w1 A c A0 c0 W) (v1 : Value) (hv : RdP W v1 paras3) :
    Calls Tryz.prog 16 #[v1, .slice (some ⟨W.heap.size, 0, none⟩) 3 3] (W.alloc (.cells #[.int .i64 20, .string sChair, .int .i64 12, .string sSaid, .int .i64 15, .string sBill] 67)) fun e w' => e = .returned (.bool true) ∧ Mid w1 A c A0 c0 w' ∧ Below W.heap.size W w' := by
  have hB : Below W.heap.size W (W.alloc (.cells #[.int .i64 20, .string sChair, .int .i64 12, .string sSaid, .int .i64 15, .string sBill] 67)) := (Below.refl _ _).alloc (Nat.le_refl _) _
  have hB' : Below (W.alloc (.cells #[.int .i64 20, .string sChair, .int .i64 12, .string sSaid, .int .i64 15, .string sBill] 67)).heap.size W (W.alloc (.cells #[.int .i64 20, .string sChair, .int .i64 12, .string sSaid, .int .i64 15, .string sBill] 67)) → True := fun _ => trivial
  refine (parascmp_any v1 _ paras3 paras3 _ (Rd.below hv hB) (rd_of_cells EP 67 (World.alloc_heap_new W _) rfl rfl (by decide))).mono ?_
  rintro e w' ⟨b, rfl, hb, hb2⟩
  have hb3 : Below W.heap.size W w' := hB.trans (hb2.mono (by simp))
  exact ⟨by rw [hb.2 rfl], h.below hb3, hb3⟩
theorem cmp_places {w1 : World} {A : Option Addr} {c : Nat} {A0 : Option Addr} {c0 : Nat} {W : World} (h : Mid w1 A c A0 c0 W) (v1 : Value) (hv : Rd EPl.f EPl.k W v1 places3) :
    Calls Tryz.prog 18 #[v1, .slice (some ⟨W.heap.size, 0, none⟩) 3 3] (W.alloc (.cells #[.int .i64 11, .int .i64 1, .int .i64 1, .int .i64 3, .int .i64 12, .int .i64 2, .int .i64 1, .int .i64 2, .int .i64 15, .int .i64 3, .int .i64 1, .int .i64 2] 63)) fun e w' => e = .returned (.bool true) ∧ Mid w1 A c A0 c0 w' ∧ Below W.heap.size W w' := by
  have hB : Below W.heap.size W (W.alloc (.cells #[.int .i64 11, .int .i64 1, .int .i64 1, .int .i64 3, .int .i64 12, .int .i64 2, .int .i64 1, .int .i64 2, .int .i64 15, .int .i64 3, .int .i64 1, .int .i64 2] 63)) := (Below.refl _ _).alloc (Nat.le_refl _) _
  refine (placescmp_any v1 _ places3 places3 _ (Rd.below hv hB) (rd_of_cells EPl 63 (World.alloc_heap_new W _) rfl rfl (by decide))).mono ?_
  rintro e w' ⟨b, rfl, hb, hb2⟩
  have hb3 : Below W.heap.size W w' := hB.trans (hb2.mono (by simp))
  exact ⟨by rw [hb.2 rfl], h.below hb3, hb3⟩
theorem mid_third (w : World) (hG : Glob w) : Calls Tryz.prog 25 #[] w fun e w1 => ∃ A c A0 c0, e = .returned (.tuple #[.agg #[.int .i64 3, .int .i64 50, .int .i64 3, .int .i64 10, .slice A 2 c], .slice A0 3 c0]) ∧ Mid w1 A c A0 c0 (w1.alloc (.cells #[.int .i64 3, .int .i64 50, .int .i64 3, .int .i64 10, .slice A 2 c] 37)) ∧ Below w.heap.size w w1 := by
  refine (third_any w).mono ?_
  rintro e w1 ⟨v1, v2, rfl, ⟨sv, rfl, A, c, rfl, hx⟩, hE, hB1⟩
  obtain ⟨A0, c0, rfl, -⟩ := id hE
  exact ⟨A, c, A0, c0, rfl, mid_of (A := A) (c := c) ⟨_, rfl, A, c, rfl, hx⟩ hE (hG.below hB1), hB1⟩
set_option maxHeartbeats 8000000 in
set_option maxRecDepth 100000 in
theorem wakes_any (w : World) (hG : Glob w) : Calls Tryz.prog 12 #[] w fun e w' => e = .returned (.bool true) ∧ Below w.heap.size w w' := by
  have q1 : sCol.toList = [118, 111, 108, 46, 32, 51, 44, 32, 99, 111, 108, 46, 32, 50, 44, 32, 108, 46, 32, 49] := by rw [Lib.toList_data]; rfl
  have q2 : sPar.toList = [118, 111, 108, 46, 32, 51, 44, 32, 52, 48, 44, 32, 112, 97, 114, 46, 32, 50] := by rw [Lib.toList_data]; rfl
  go_enter Tryz.func12, Tryz.ntmps12
  go_wp2_with (first
    | (go_at_call 25; refine (mid_third w hG).mono ?_; rintro e w1 ⟨A, c, A0, c0, rfl, hM, hB1⟩; have k0 := hM.k0; have k1 := hM.k1; have k2 := hM.k2; have k3 := hM.k3; have k4 := hM.k4)
    | (go_at_call 13; refine (mid_read hM).mono ?_; rintro e w2 ⟨A2, c2, rfl, hR2, hM2, hB2⟩; clear k0 k1 k2 k3 k4; have k0 := hM2.k0; have k1 := hM2.k1; have k2 := hM2.k2; have k3 := hM2.k3; have k4 := hM2.k4)
    | (go_at_call 17; refine (mid_print hM2).mono ?_; rintro e w3 ⟨A3, c3, rfl, hR3, hM3, hB3⟩; clear k0 k1 k2 k3 k4; have k0 := hM3.k0; have k1 := hM3.k1; have k2 := hM3.k2; have k3 := hM3.k3; have k4 := hM3.k4)
    | (go_at_call 20; refine (mid_cite0 hM3).mono ?_; rintro e w4 ⟨rfl, hM4, hB4⟩; clear k0 k1 k2 k3 k4 hM3; have k0 := hM4.k0; have k1 := hM4.k1; have k2 := hM4.k2; have k3 := hM4.k3; have k4 := hM4.k4)
    | (go_at_call 20; refine (mid_cite1 hM4).mono ?_; rintro e w5 ⟨rfl, hM5, hB5⟩; clear k0 k1 k2 k3 k4; have k0 := hM5.k0; have k1 := hM5.k1; have k2 := hM5.k2; have k3 := hM5.k3; have k4 := hM5.k4)
    | (go_at_call 21; refine (mid_res hM5).mono ?_; rintro e w6 ⟨rfl, hM6, hB6⟩; clear k0 k1 k2 k3 k4; have hR3' := Rd.below hR3 ((hB4.trans (hB5.mono hB4.size)).trans (hB6.mono (Nat.le_trans hB4.size hB5.size))); have hR2' := Rd.below hR2 (hB3.trans ((hB4.trans (hB5.mono hB4.size)).trans (hB6.mono (Nat.le_trans hB4.size hB5.size)) |>.mono hB3.size)))
    | (go_at_call 16; refine (cmp_paras hM6 _ hR2').mono ?_; rintro e w7 ⟨rfl, hM7, hB7⟩; have hR3'' := Rd.below hR3' hB7)
    | (go_at_call 18; refine (cmp_places hM7 _ hR3'').mono ?_; rintro e w8 ⟨rfl, hM8, hB8⟩))
  go_ret
  have z2 := hB2.size
  rw [World.size_alloc] at z2
  have z1 := hB1.size
  have z3 := hB3.size; have z4 := hB4.size; have z5 := hB5.size; have z6 := hB6.size; have z7 := hB7.size
  refine ⟨rfl, ?_⟩
  exact ((((((((hB1.alloc (by omega) _).trans (hB2.mono (by simp; omega))).trans (hB3.mono (by omega))).trans (hB4.mono (by omega))).trans (hB5.mono (by omega))).trans (hB6.mono (by omega))).trans (hB7.mono (by omega))).trans (hB8.mono (by omega)))
end Go.Proofs.YtjkmdpejcgepkaaGreatDoor
/- What every law of the volume keeps of its input. -/
namespace Go.Proofs.YtjkmdpejcgepkaaGreatDoor
open Go.RowKit
/-- what every law keeps of its input: the volume's own block, the volume and one list of errata as they read, the library's variables -/
structure Keep1 (w : World) (x : Vol) (A : Option Addr) (c : Nat) (er : List Err) (ev : Value) (W : World) : Prop where
  k0 : W.cell? ⟨w.heap.size, 0, none⟩ = some (.int .i64 x.number)
  k1 : W.cell? ⟨w.heap.size, 1, none⟩ = some (.int .i64 x.bound)
  k2 : W.cell? ⟨w.heap.size, 2, none⟩ = some (.int .i64 x.height)
  k3 : W.cell? ⟨w.heap.size, 3, none⟩ = some (.int .i64 x.width)
  k4 : W.cell? ⟨w.heap.size, 4, none⟩ = some (.slice A x.parts.length c)
  vol : IsVol W (.agg #[.int .i64 x.number, .int .i64 x.bound, .int .i64 x.height, .int .i64 x.width, .slice A x.parts.length c]) x
  err : RdE W ev er
  glob : Glob W
  base : Below w.heap.size w W
  lt : w.heap.size < W.heap.size
theorem Keep1.below {w : World} {x : Vol} {A : Option Addr} {c : Nat} {er : List Err} {ev : Value} {W W' : World} (h : Keep1 w x A c er ev W) (hB : Below W.heap.size W W') : Keep1 w x A c er ev W' :=
  ⟨by rw [hB.cell (p := ⟨w.heap.size, _, none⟩) h.lt]; exact h.k0, by rw [hB.cell (p := ⟨w.heap.size, _, none⟩) h.lt]; exact h.k1, by rw [hB.cell (p := ⟨w.heap.size, _, none⟩) h.lt]; exact h.k2, by rw [hB.cell (p := ⟨w.heap.size, _, none⟩) h.lt]; exact h.k3, by rw [hB.cell (p := ⟨w.heap.size, _, none⟩) h.lt]; exact h.k4,
    h.vol.below hB, Rd.below h.err hB, h.glob.below hB, h.base.trans (hB.mono h.base.size), Nat.lt_of_lt_of_le h.lt hB.size⟩
theorem keep1_start (w : World) (x : Vol) (A : Option Addr) (c : Nat) (er : List Err) (ev : Value) (hv : IsVol w (x.val (.slice A x.parts.length c)) x) (he : RdE w ev er) (hG : Glob w) :
    Keep1 w x A c er ev (w.alloc (.cells #[.int .i64 x.number, .int .i64 x.bound, .int .i64 x.height, .int .i64 x.width, .slice A x.parts.length c] 24)) := by
  have hB : Below w.heap.size w (w.alloc (.cells #[.int .i64 x.number, .int .i64 x.bound, .int .i64 x.height, .int .i64 x.width, .slice A x.parts.length c] 24)) := (Below.refl _ _).alloc (Nat.le_refl _) _
  exact ⟨by simp [go_sem], by simp [go_sem], by simp [go_sem], by simp [go_sem], by simp [go_sem], hv.below hB, Rd.below he hB, hG.below hB, hB, by simp⟩
theorem ready_paras {x : Vol} (h : checkVol x = 0) : x.paras.length ≤ 280 := by
  unfold checkVol at h
  split at h
  · simp at h
  · omega
end Go.Proofs.YtjkmdpejcgepkaaGreatDoor
/- The list of errata and one more, whichever way the order is drawn. -/
namespace Go.Proofs.YtjkmdpejcgepkaaGreatDoor
open Go.RowKit
theorem Tryz.infoRErr : (Tryz.prog.info? 27).map (fun i => (i.zero, i.size, i.bytes)) = some (some (.agg #[.int .i64 0, .int .i64 0, .int .u8 0, .int .i64 0, .string ⟨#[]⟩, .int .i64 0]), 6, 56) := by kernel_rfl
theorem err_block {W : World} {b : Nat} {y : Err} (hh : W.heap[b]? = some (.cells (EE.f y).toArray 27 (0, 0))) : Rd EE.f EE.k W (.slice (some ⟨b, 0, none⟩) 1 1) [y] :=
  rd_of_cells EE 27 hh (by simp [flat]) rfl (by decide)
/-- the list and one erratum more, whichever way the order is drawn -/
structure More (B : Nat) (y : Err) (er : List Err) (ev : Value) (bl : Nat) (lst : Value) (W : World) : Prop where
  own : Own EE 27 W B lst []
  rd : RdE W ev er
  base : B ≤ W.heap.size
theorem more1 (W0 : World) (y : Err) (er : List Err) (ev : Value) (he : RdE W0 ev er) :
    More W0.heap.size y er ev W0.heap.size (.slice (some ⟨W0.heap.size + 1, 0, none⟩) 0 0) ((W0.alloc (.cells (EE.f y).toArray 27)).alloc (.cells #[] 27)).drew := by
  have h := Own.empty_lit EE 27 (W0.alloc (.cells (EE.f y).toArray 27)) W0.heap.size (by simp)
  rw [World.size_alloc] at h
  exact ⟨h, Rd.below he ((((Below.refl _ _).alloc (Nat.le_refl _) _).alloc (by simp) _).drewN 1), by show _ ≤ (World.alloc _ _).heap.size; simp; omega⟩
theorem more2 (W0 : World) (y : Err) (er : List Err) (ev : Value) (he : RdE W0 ev er) :
    More W0.heap.size y er ev (W0.heap.size + 1) (.slice (some ⟨W0.heap.size, 0, none⟩) 0 0) ((W0.alloc (.cells #[] 27)).alloc (.cells (EE.f y).toArray 27)).drew := by
  have h := Own.empty_lit EE 27 W0 W0.heap.size (Nat.le_refl _)
  exact ⟨h.alloc _, Rd.below he ((((Below.refl _ _).alloc (Nat.le_refl _) _).alloc (by simp) _).drewN 1), by show _ ≤ (World.alloc _ _).heap.size; simp; omega⟩
theorem more3 (W0 : World) (y : Err) (er : List Err) (ev : Value) (he : RdE W0 ev er) :
    More W0.heap.size y er ev 0 (.slice (some ⟨W0.heap.size, 0, none⟩) 0 0) (W0.alloc (.cells #[] 27)).drew := by
  have h := Own.empty_lit EE 27 W0 W0.heap.size (Nat.le_refl _)
  exact ⟨h, Rd.below he (((Below.refl _ _).alloc (Nat.le_refl _) _).drewN 1), by show _ ≤ (World.alloc _ _).heap.size; simp⟩
theorem kept1 {W0 w1 : World} {y : Err} (hg : (((W0.alloc (.cells (EE.f y).toArray 27)).alloc (.cells #[] 27)).drew).grownBy w1 (some (W0.heap.size + 1))) : Rd EE.f EE.k w1 (.slice (some ⟨W0.heap.size, 0, none⟩) 1 1) [y] := by
  refine err_block ?_
  rw [hg.block W0.heap.size (by show _ < (World.alloc _ _).heap.size; simp; omega) (by simp)]
  show (World.alloc _ _).heap[_]? = _
  rw [Below.heap_alloc _ _ _ (by simp)]; exact World.alloc_heap_new _ _
theorem kept2 {W0 w1 : World} {y : Err} (hg : (((W0.alloc (.cells #[] 27)).alloc (.cells (EE.f y).toArray 27)).drew).grownBy w1 (some W0.heap.size)) : Rd EE.f EE.k w1 (.slice (some ⟨W0.heap.size + 1, 0, none⟩) 1 1) [y] := by
  refine err_block ?_
  rw [hg.block (W0.heap.size + 1) (by show _ < (World.alloc _ _).heap.size; simp) (by simp)]
  show (World.alloc _ _).heap[_]? = _
  have h := World.alloc_heap_new (W0.alloc (.cells #[] 27)) (.cells (EE.f y).toArray 27)
  rw [World.size_alloc] at h; exact h
/-- what a law with one erratum more keeps -/
structure LkS (w : World) (x : Vol) (A : Option Addr) (c : Nat) (er : List Err) (ev : Value) (y : Err) (W : World) : Prop extends Keep1 w x A c er ev W where
  m0 : W.cell? ⟨w.heap.size + 1, 0, none⟩ = some (.int .i64 y.number)
  m1 : W.cell? ⟨w.heap.size + 1, 1, none⟩ = some (.int .i64 y.day)
  m2 : W.cell? ⟨w.heap.size + 1, 2, none⟩ = some (.int .u8 y.kind)
  m3 : W.cell? ⟨w.heap.size + 1, 3, none⟩ = some (.int .i64 y.anchor)
  m4 : W.cell? ⟨w.heap.size + 1, 4, none⟩ = some (.string y.text)
  m5 : W.cell? ⟨w.heap.size + 1, 5, none⟩ = some (.int .i64 y.new)
  lt1 : w.heap.size + 1 < W.heap.size
theorem LkS.below {w : World} {x : Vol} {A : Option Addr} {c : Nat} {er : List Err} {ev : Value} {y : Err} {W W' : World} (h : LkS w x A c er ev y W) (hB : Below W.heap.size W W') : LkS w x A c er ev y W' :=
  ⟨h.toKeep1.below hB, by rw [hB.cell (p := ⟨w.heap.size + 1, _, none⟩) h.lt1]; exact h.m0, by rw [hB.cell (p := ⟨w.heap.size + 1, _, none⟩) h.lt1]; exact h.m1, by rw [hB.cell (p := ⟨w.heap.size + 1, _, none⟩) h.lt1]; exact h.m2,
    by rw [hB.cell (p := ⟨w.heap.size + 1, _, none⟩) h.lt1]; exact h.m3, by rw [hB.cell (p := ⟨w.heap.size + 1, _, none⟩) h.lt1]; exact h.m4, by rw [hB.cell (p := ⟨w.heap.size + 1, _, none⟩) h.lt1]; exact h.m5, Nat.lt_of_lt_of_le h.lt1 hB.size⟩
theorem lks_start (w : World) (x : Vol) (A : Option Addr) (c : Nat) (er : List Err) (ev : Value) (y : Err) (hv : IsVol w (x.val (.slice A x.parts.length c)) x) (he : RdE w ev er) (hG : Glob w) :
    LkS w x A c er ev y ((w.alloc (.cells #[.int .i64 x.number, .int .i64 x.bound, .int .i64 x.height, .int .i64 x.width, .slice A x.parts.length c] 24)).alloc (.cells #[.int .i64 y.number, .int .i64 y.day, .int .u8 y.kind, .int .i64 y.anchor, .string y.text, .int .i64 y.new] 27)) := by
  have h := (keep1_start w x A c er ev hv he hG).below ((Below.refl _ _).alloc (Nat.le_refl _) (.cells #[.int .i64 y.number, .int .i64 y.day, .int .u8 y.kind, .int .i64 y.anchor, .string y.text, .int .i64 y.new] 27))
  exact ⟨h, by simp [go_sem], by simp [go_sem], by simp [go_sem], by simp [go_sem], by simp [go_sem], by simp [go_sem], by simp⟩
end Go.Proofs.YtjkmdpejcgepkaaGreatDoor
