/- The closed question: for the program. -/
import Derived.Test.YtjkmdpejcgepkaaGreatDoorEA
import Derived.Test.YtjkmdpejcgepkaaGreatDoorDB
import Derived.Test.YtjkmdpejcgepkaaGreatDoorP1
namespace Go.Proofs.YtjkmdpejcgepkaaGreatDoor
open Go.RowKit
def sCol : ByteArray := ⟨#[118, 111, 108, 46, 32, 51, 44, 32, 99, 111, 108, 46, 32, 50, 44, 32, 108, 46, 32, 49]⟩
def sPar : ByteArray := ⟨#[118, 111, 108, 46, 32, 51, 44, 32, 52, 48, 44, 32, 112, 97, 114, 46, 32, 50]⟩
def sL3 : ByteArray := ⟨#[118, 111, 108, 46, 32, 51, 44, 32, 99, 111, 108, 46, 32, 49, 44, 32, 108, 46, 32, 51]⟩
def paras3 : List Para := [⟨20, sChair⟩, ⟨12, sSaid⟩, ⟨15, sBill⟩]
def places3 : List Plc := [⟨11, 1, 1, 3⟩, ⟨12, 2, 1, 2⟩, ⟨15, 3, 1, 2⟩]
theorem three_read : readE vol3 err3 60 = 0 ∧ readL vol3 err3 60 = paras3 := by
  constructor <;> kernel_rfl
theorem three_places : checkE vol3 err3 = 0 ∧ placesL vol3 err3 = places3 := by
  constructor <;> kernel_rfl
theorem three_cite : citeE vol3 err3 12 0 0 = (sCol, 0) ∧ citeE vol3 err3 12 1 0 = (sPar, 0) := by
  constructor <;> kernel_rfl
theorem three_res : resolveE vol3 err3 sL3.data.toList = (11, 50, 0) := by kernel_rfl
theorem vol3_small : vol3.small := by
  refine ⟨by decide, fun p hp => ?_⟩
  simp only [vol3, List.mem_cons, List.not_mem_nil, or_false] at hp
  rcases hp with rfl | rfl <;> simp <;> decide
def V3 (A : Option Addr) (c : Nat) : Value := .agg #[.int .i64 3, .int .i64 50, .int .i64 3, .int .i64 10, .slice A 2 c]
def C3 (A : Option Addr) (c : Nat) : Obj := .cells #[.int .i64 3, .int .i64 50, .int .i64 3, .int .i64 10, .slice A 2 c] 37
structure Mid (w1 : World) (A : Option Addr) (c : Nat) (A0 : Option Addr) (c0 : Nat) (W : World) : Prop where
  k0 : W.cell? ⟨w1.heap.size, 0, none⟩ = some (.int .i64 3)
  k1 : W.cell? ⟨w1.heap.size, 1, none⟩ = some (.int .i64 50)
  k2 : W.cell? ⟨w1.heap.size, 2, none⟩ = some (.int .i64 3)
  k3 : W.cell? ⟨w1.heap.size, 3, none⟩ = some (.int .i64 10)
  k4 : W.cell? ⟨w1.heap.size, 4, none⟩ = some (.slice A 2 c)
  vol : IsVol W (.agg #[.int .i64 3, .int .i64 50, .int .i64 3, .int .i64 10, .slice A 2 c]) vol3
  err : RdE W (.slice A0 3 c0) err3
  glob : Glob W
theorem mid_of {w1 : World} {A : Option Addr} {c : Nat} {A0 : Option Addr} {c0 : Nat} (hV : IsVol w1 (.agg #[.int .i64 3, .int .i64 50, .int .i64 3, .int .i64 10, .slice A 2 c]) vol3) (hE : RdE w1 (.slice A0 3 c0) err3) (hG : Glob w1) :
    Mid w1 A c A0 c0 (w1.alloc (.cells #[.int .i64 3, .int .i64 50, .int .i64 3, .int .i64 10, .slice A 2 c] 37)) := by
  have hB : Below w1.heap.size w1 (w1.alloc (.cells #[.int .i64 3, .int .i64 50, .int .i64 3, .int .i64 10, .slice A 2 c] 37)) := (Below.refl _ _).alloc (Nat.le_refl _) _
  exact ⟨by simp [go_sem], by simp [go_sem], by simp [go_sem], by simp [go_sem], by simp [go_sem], hV.below hB, Rd.below hE hB, hG.below hB⟩
theorem Mid.below {w1 : World} {A : Option Addr} {c : Nat} {A0 : Option Addr} {c0 : Nat} {W W' : World} (h : Mid w1 A c A0 c0 W) (hB : Below W.heap.size W W') : Mid w1 A c A0 c0 W' := by
  have hlt : w1.heap.size < W.heap.size := by
    have := h.k0
    unfold World.cell? at this
    cases hh : W.heap[w1.heap.size]? with
    | none => simp [hh] at this
    | some o => exact (Array.getElem?_eq_some_iff.1 hh).1
  exact ⟨by rw [hB.cell (p := ⟨w1.heap.size, _, none⟩) hlt]; exact h.k0, by rw [hB.cell (p := ⟨w1.heap.size, _, none⟩) hlt]; exact h.k1, by rw [hB.cell (p := ⟨w1.heap.size, _, none⟩) hlt]; exact h.k2, by rw [hB.cell (p := ⟨w1.heap.size, _, none⟩) hlt]; exact h.k3, by rw [hB.cell (p := ⟨w1.heap.size, _, none⟩) hlt]; exact h.k4, h.vol.below hB, Rd.below h.err hB, h.glob.below hB⟩
theorem err3_fits : ∀ y ∈ err3, y.fits := by
  intro y hy
  simp only [err3, List.mem_cons, List.not_mem_nil, or_false] at hy
  rcases hy with rfl | rfl | rfl <;> (unfold Err.fits; decide)
theorem mid_read {w1 : World} {A : Option Addr} {c : Nat} {A0 : Option Addr} {c0 : Nat} {W : World} (h : Mid w1 A c A0 c0 W) :
    Calls Tryz.prog 13 #[.agg #[.int .i64 3, .int .i64 50, .int .i64 3, .int .i64 10, .slice A 2 c], .slice A0 3 c0, .int .i64 60] W fun e w' => ∃ A2 c2, e = .returned (.tuple #[.slice A2 3 c2, .int .i64 0]) ∧ RdP w' (.slice A2 3 c2) paras3 ∧ Mid w1 A c A0 c0 w' ∧ Below W.heap.size W w' := by
  refine (Read_any _ _ vol3 err3 60 W h.vol vol3_small h.err (by decide) err3_fits).mono ?_
  rw [three_read.1, three_read.2]
  rintro e w' ⟨v, rfl, ho, hb⟩
  obtain ⟨A2, c2, rfl, -⟩ := id ho.rd
  exact ⟨A2, c2, rfl, ho.rd, h.below hb, hb⟩
theorem mid_print {w1 : World} {A : Option Addr} {c : Nat} {A0 : Option Addr} {c0 : Nat} {W : World} (h : Mid w1 A c A0 c0 W) :
    Calls Tryz.prog 17 #[.agg #[.int .i64 3, .int .i64 50, .int .i64 3, .int .i64 10, .slice A 2 c], .slice A0 3 c0] W fun e w' => ∃ A2 c2, e = .returned (.tuple #[.slice A2 3 c2, .int .i64 0]) ∧ Rd EPl.f EPl.k w' (.slice A2 3 c2) places3 ∧ Mid w1 A c A0 c0 w' ∧ Below W.heap.size W w' := by
  refine (Print_any _ _ vol3 err3 W h.vol vol3_small h.err (by decide) err3_fits).mono ?_
  rw [three_places.1, three_places.2]
  rintro e w' ⟨v, rfl, ho, hb⟩
  obtain ⟨A2, c2, rfl, -⟩ := id ho.rd
  exact ⟨A2, c2, rfl, ho.rd, h.below hb, hb⟩
theorem mid_cite0 {w1 : World} {A : Option Addr} {c : Nat} {A0 : Option Addr} {c0 : Nat} {W : World} (h : Mid w1 A c A0 c0 W) :
    Calls Tryz.prog 20 #[.agg #[.int .i64 3, .int .i64 50, .int .i64 3, .int .i64 10, .slice A 2 c], .slice A0 3 c0, .int .i64 12, .int .u8 0, .int .i64 0] W fun e w' => e = .returned (.tuple #[.string sCol, .int .i64 0]) ∧ Mid w1 A c A0 c0 w' ∧ Below W.heap.size W w' := by
  refine (Cite_any _ _ vol3 err3 12 0 0 W h.vol vol3_small h.err (by decide) err3_fits (by decide) (by decide) h.glob).mono ?_
  rw [three_cite.1]
  rintro e w' ⟨rfl, hb⟩
  exact ⟨rfl, h.below hb, hb⟩
theorem mid_cite1 {w1 : World} {A : Option Addr} {c : Nat} {A0 : Option Addr} {c0 : Nat} {W : World} (h : Mid w1 A c A0 c0 W) :
    Calls Tryz.prog 20 #[.agg #[.int .i64 3, .int .i64 50, .int .i64 3, .int .i64 10, .slice A 2 c], .slice A0 3 c0, .int .i64 12, .int .u8 1, .int .i64 0] W fun e w' => e = .returned (.tuple #[.string sPar, .int .i64 0]) ∧ Mid w1 A c A0 c0 w' ∧ Below W.heap.size W w' := by
  refine (Cite_any _ _ vol3 err3 12 1 0 W h.vol vol3_small h.err (by decide) err3_fits (by decide) (by decide) h.glob).mono ?_
  rw [three_cite.2]
  rintro e w' ⟨rfl, hb⟩
  exact ⟨rfl, h.below hb, hb⟩
theorem mid_res {w1 : World} {A : Option Addr} {c : Nat} {A0 : Option Addr} {c0 : Nat} {W : World} (h : Mid w1 A c A0 c0 W) :
    Calls Tryz.prog 21 #[.agg #[.int .i64 3, .int .i64 50, .int .i64 3, .int .i64 10, .slice A 2 c], .slice A0 3 c0, .string sL3] W fun e w' => e = .returned (.tuple #[.int .i64 11, .int .i64 50, .int .i64 0]) ∧ Mid w1 A c A0 c0 w' ∧ Below W.heap.size W w' := by
  refine (Resolve_any _ _ vol3 err3 sL3 W h.vol vol3_small h.err (by decide) err3_fits (by decide) h.glob).mono ?_
  rw [three_res]
  rintro e w' ⟨rfl, hb⟩
  exact ⟨rfl, h.below hb, hb⟩
end Go.Proofs.YtjkmdpejcgepkaaGreatDoor
/- The closed question: for the program, the walk. -/
namespace Go.Proofs.YtjkmdpejcgepkaaGreatDoor
open Go.RowKit
theorem cmp_paras {w1 : World} {A : Option Addr} {c : Nat} {A0 : Option Addr} {c0 : Nat} {W : World} (h : Mid w1 A c A0 c0 W) (v1 : Value) (hv : RdP W v1 paras3) :
    Calls Tryz.prog 16 #[v1, .slice (some ⟨W.heap.size, 0, none⟩) 3 3] (W.alloc (.cells #[.int .i64 20, .string sChair, .int .i64 12, .string sSaid, .int .i64 15, .string sBill] 67)) fun e w' => e = .returned (.bool true) ∧ Mid w1 A c A0 c0 w' ∧ Below W.heap.size W w' := by
  have hB : Below W.heap.size W (W.alloc (.cells #[.int .i64 20, .string sChair, .int .i64 12, .string sSaid, .int .i64 15, .string sBill] 67)) := (Below.refl _ _).alloc (Nat.le_refl _) _
  have hB' : Below (W.alloc (.cells #[.int .i64 20, .string sChair, .int .i64 12, .string sSaid, .int .i64 15, .string sBill] 67)).heap.size W (W.alloc (.cells #[.int .i64 20, .string sChair, .int .i64 12, .string sSaid, .int .i64 15, .string sBill] 67)) → True := fun _ => trivial
  refine (parascmp_any v1 _ paras3 paras3 _ (Rd.below hv hB) (rd_of_cells EP 67 (World.alloc_heap_new W _) rfl rfl (by decide))).mono ?_
  rintro e w' ⟨b, rfl, hb, hb2⟩
  have hb3 : Below W.heap.size W w' := hB.trans (hb2.mono (by simp))
  exact ⟨by rw [hb.2 rfl], h.below hb3, hb3⟩
theorem cmp_places {w1 : World} {A : Option Addr} {c : Nat} {A0 : Option Addr} {c0 : Nat} {W : World} (h : Mid w1 A c A0 c0 W) (v1 : Value) (hv : Rd EPl.f EPl.k W v1 places3) :
    Calls Tryz.prog 18 #[v1, .slice (some ⟨W.heap.size, 0, none⟩) 3 3] (W.alloc (.cells #[.int .i64 11, .int .i64 1, .int .i64 1, .int .i64 3, .int .i64 12, .int .i64 2, .int .i64 1, .int .i64 2, .int .i64 15, .int .i64 3, .int .i64 1, .int .i64 2] 63)) fun e w' => e = .returned (.bool true) ∧ Mid w1 A c A0 c0 w' ∧ Below W.heap.size W w' := by
  have hB : Below W.heap.size W (W.alloc (.cells #[.int .i64 11, .int .i64 1, .int .i64 1, .int .i64 3, .int .i64 12, .int .i64 2, .int .i64 1, .int .i64 2, .int .i64 15, .int .i64 3, .int .i64 1, .int .i64 2] 63)) := (Below.refl _ _).alloc (Nat.le_refl _) _
  refine (placescmp_any v1 _ places3 places3 _ (Rd.below hv hB) (rd_of_cells EPl 63 (World.alloc_heap_new W _) rfl rfl (by decide))).mono ?_
  rintro e w' ⟨b, rfl, hb, hb2⟩
  have hb3 : Below W.heap.size W w' := hB.trans (hb2.mono (by simp))
  exact ⟨by rw [hb.2 rfl], h.below hb3, hb3⟩
theorem mid_third (w : World) (hG : Glob w) : Calls Tryz.prog 25 #[] w fun e w1 => ∃ A c A0 c0, e = .returned (.tuple #[.agg #[.int .i64 3, .int .i64 50, .int .i64 3, .int .i64 10, .slice A 2 c], .slice A0 3 c0]) ∧ Mid w1 A c A0 c0 (w1.alloc (.cells #[.int .i64 3, .int .i64 50, .int .i64 3, .int .i64 10, .slice A 2 c] 37)) ∧ Below w.heap.size w w1 := by
  refine (third_any w).mono ?_
  rintro e w1 ⟨v1, v2, rfl, ⟨sv, rfl, A, c, rfl, hx⟩, hE, hB1⟩
  obtain ⟨A0, c0, rfl, -⟩ := id hE
  exact ⟨A, c, A0, c0, rfl, mid_of (A := A) (c := c) ⟨_, rfl, A, c, rfl, hx⟩ hE (hG.below hB1), hB1⟩
set_option maxHeartbeats 8000000 in
set_option maxRecDepth 100000 in
theorem wakes_any (w : World) (hG : Glob w) : Calls Tryz.prog 12 #[] w fun e w' => e = .returned (.bool true) ∧ Below w.heap.size w w' := by
  have q1 : sCol.toList = [118, 111, 108, 46, 32, 51, 44, 32, 99, 111, 108, 46, 32, 50, 44, 32, 108, 46, 32, 49] := by rw [Lib.toList_data]; rfl
  have q2 : sPar.toList = [118, 111, 108, 46, 32, 51, 44, 32, 52, 48, 44, 32, 112, 97, 114, 46, 32, 50] := by rw [Lib.toList_data]; rfl
  go_enter Tryz.func12, Tryz.ntmps12
  go_wp2_with (first
    | (go_at_call 25; refine (mid_third w hG).mono ?_; rintro e w1 ⟨A, c, A0, c0, rfl, hM, hB1⟩; have k0 := hM.k0; have k1 := hM.k1; have k2 := hM.k2; have k3 := hM.k3; have k4 := hM.k4)
    | (go_at_call 13; refine (mid_read hM).mono ?_; rintro e w2 ⟨A2, c2, rfl, hR2, hM2, hB2⟩; clear k0 k1 k2 k3 k4; have k0 := hM2.k0; have k1 := hM2.k1; have k2 := hM2.k2; have k3 := hM2.k3; have k4 := hM2.k4)
    | (go_at_call 17; refine (mid_print hM2).mono ?_; rintro e w3 ⟨A3, c3, rfl, hR3, hM3, hB3⟩; clear k0 k1 k2 k3 k4; have k0 := hM3.k0; have k1 := hM3.k1; have k2 := hM3.k2; have k3 := hM3.k3; have k4 := hM3.k4)
    | (go_at_call 20; refine (mid_cite0 hM3).mono ?_; rintro e w4 ⟨rfl, hM4, hB4⟩; clear k0 k1 k2 k3 k4 hM3; have k0 := hM4.k0; have k1 := hM4.k1; have k2 := hM4.k2; have k3 := hM4.k3; have k4 := hM4.k4)
    | (go_at_call 20; refine (mid_cite1 hM4).mono ?_; rintro e w5 ⟨rfl, hM5, hB5⟩; clear k0 k1 k2 k3 k4; have k0 := hM5.k0; have k1 := hM5.k1; have k2 := hM5.k2; have k3 := hM5.k3; have k4 := hM5.k4)
    | (go_at_call 21; refine (mid_res hM5).mono ?_; rintro e w6 ⟨rfl, hM6, hB6⟩; clear k0 k1 k2 k3 k4; have hR3' := Rd.below hR3 ((hB4.trans (hB5.mono hB4.size)).trans (hB6.mono (Nat.le_trans hB4.size hB5.size))); have hR2' := Rd.below hR2 (hB3.trans ((hB4.trans (hB5.mono hB4.size)).trans (hB6.mono (Nat.le_trans hB4.size hB5.size)) |>.mono hB3.size)))
    | (go_at_call 16; refine (cmp_paras hM6 _ hR2').mono ?_; rintro e w7 ⟨rfl, hM7, hB7⟩; have hR3'' := Rd.below hR3' hB7)
    | (go_at_call 18; refine (cmp_places hM7 _ hR3'').mono ?_; rintro e w8 ⟨rfl, hM8, hB8⟩))
  go_ret
  have z2 := hB2.size
  rw [World.size_alloc] at z2
  have z1 := hB1.size
  have z3 := hB3.size; have z4 := hB4.size; have z5 := hB5.size; have z6 := hB6.size; have z7 := hB7.size
  refine ⟨rfl, ?_⟩
  exact ((((((((hB1.alloc (by omega) _).trans (hB2.mono (by simp; omega))).trans (hB3.mono (by omega))).trans (hB4.mono (by omega))).trans (hB5.mono (by omega))).trans (hB6.mono (by omega))).trans (hB7.mono (by omega))).trans (hB8.mono (by omega)))
end Go.Proofs.YtjkmdpejcgepkaaGreatDoor
