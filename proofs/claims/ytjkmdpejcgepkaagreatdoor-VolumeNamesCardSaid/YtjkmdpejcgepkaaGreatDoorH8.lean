/- VolumeNames: for the program. -/
import Derived.Test.YtjkmdpejcgepkaaGreatDoorEC
import Derived.Test.YtjkmdpejcgepkaaGreatDoorJ2
import Derived.Deep.CutRange
import Derived.Deep.RegionHeld3
namespace Go.Proofs.YtjkmdpejcgepkaaGreatDoor
open Go.RowKit
theorem Tryz.infoErr5 : (Tryz.prog.info? 77).map (fun i => (i.zero, i.size, i.bytes)) = some (some (.agg #[.int .i64 0, .int .i64 0, .int .u8 0, .int .i64 0, .string ⟨#[]⟩, .int .i64 0]), 6, 56) := by kernel_rfl
theorem err_blockT {W : World} {b : Nat} {y : Err} (hh : W.heap[b]? = some (.cells (EE.f y).toArray 77 (0, 0))) : Rd EE.f EE.k W (.slice (some ⟨b, 0, none⟩) 1 1) [y] :=
  rd_of_cells EE 77 hh (by simp [flat]) rfl (by decide)
/-- the list and one erratum more, whichever way the order is drawn -/
structure MoreT (B : Nat) (y : Err) (er : List Err) (ev : Value) (bl : Nat) (lst : Value) (W : World) : Prop where
  own : Own EE 77 W B lst []
  rd : RdE W ev er
  base : B ≤ W.heap.size
theorem more1T (W0 : World) (y : Err) (er : List Err) (ev : Value) (he : RdE W0 ev er) :
    MoreT W0.heap.size y er ev W0.heap.size (.slice (some ⟨W0.heap.size + 1, 0, none⟩) 0 0) ((W0.alloc (.cells (EE.f y).toArray 77)).alloc (.cells #[] 77)).drew := by
  have h := Own.empty_lit EE 77 (W0.alloc (.cells (EE.f y).toArray 77)) W0.heap.size (by simp)
  rw [World.size_alloc] at h
  exact ⟨h, Rd.below he ((((Below.refl _ _).alloc (Nat.le_refl _) _).alloc (by simp) _).drewN 1), by show _ ≤ (World.alloc _ _).heap.size; simp; omega⟩
theorem more2T (W0 : World) (y : Err) (er : List Err) (ev : Value) (he : RdE W0 ev er) :
    MoreT W0.heap.size y er ev (W0.heap.size + 1) (.slice (some ⟨W0.heap.size, 0, none⟩) 0 0) ((W0.alloc (.cells #[] 77)).alloc (.cells (EE.f y).toArray 77)).drew := by
  have h := Own.empty_lit EE 77 W0 W0.heap.size (Nat.le_refl _)
  exact ⟨h.alloc _, Rd.below he ((((Below.refl _ _).alloc (Nat.le_refl _) _).alloc (by simp) _).drewN 1), by show _ ≤ (World.alloc _ _).heap.size; simp; omega⟩
theorem more3T (W0 : World) (y : Err) (er : List Err) (ev : Value) (he : RdE W0 ev er) :
    MoreT W0.heap.size y er ev 0 (.slice (some ⟨W0.heap.size, 0, none⟩) 0 0) (W0.alloc (.cells #[] 77)).drew := by
  have h := Own.empty_lit EE 77 W0 W0.heap.size (Nat.le_refl _)
  exact ⟨h, Rd.below he (((Below.refl _ _).alloc (Nat.le_refl _) _).drewN 1), by show _ ≤ (World.alloc _ _).heap.size; simp⟩
theorem kept1T {W0 w1 : World} {y : Err} (hg : (((W0.alloc (.cells (EE.f y).toArray 77)).alloc (.cells #[] 77)).drew).grownBy w1 (some (W0.heap.size + 1))) : Rd EE.f EE.k w1 (.slice (some ⟨W0.heap.size, 0, none⟩) 1 1) [y] := by
  refine err_blockT ?_
  rw [hg.block W0.heap.size (by show _ < (World.alloc _ _).heap.size; simp; omega) (by simp)]
  show (World.alloc _ _).heap[_]? = _
  rw [Below.heap_alloc _ _ _ (by simp)]; exact World.alloc_heap_new _ _
theorem kept2T {W0 w1 : World} {y : Err} (hg : (((W0.alloc (.cells #[] 77)).alloc (.cells (EE.f y).toArray 77)).drew).grownBy w1 (some W0.heap.size)) : Rd EE.f EE.k w1 (.slice (some ⟨W0.heap.size + 1, 0, none⟩) 1 1) [y] := by
  refine err_blockT ?_
  rw [hg.block (W0.heap.size + 1) (by show _ < (World.alloc _ _).heap.size; simp) (by simp)]
  show (World.alloc _ _).heap[_]? = _
  have h := World.alloc_heap_new (W0.alloc (.cells #[] 77)) (.cells (EE.f y).toArray 77)
  rw [World.size_alloc] at h; exact h

section
variable {w1 : World} {A : Option Addr} {c : Nat} {A0 : Option Addr} {c0 : Nat} {W : World}
theorem mid_find (h : Mid w1 A c A0 c0 W) (a dd : Int) (s : ByteArray) (g : Bool) (n : Int) (hf : findE vol3 err3 a dd = (s, g, n)) :
    Calls Tryz.prog 23 #[.agg #[.int .i64 3, .int .i64 50, .int .i64 3, .int .i64 10, .slice A 2 c], .slice A0 3 c0, .int .i64 a, .int .i64 dd] W fun e w' => e = .returned (.tuple #[.string s, .bool g, .int .i64 n]) ∧ Mid w1 A c A0 c0 w' ∧ Below W.heap.size W w' := by
  refine (Find_any _ _ vol3 err3 a dd W h.vol vol3_small h.err (by decide) err3_fits).mono ?_
  rw [hf]
  rintro e w' ⟨rfl, hb⟩
  exact ⟨rfl, h.below hb, hb⟩
theorem mid_cite (h : Mid w1 A c A0 c0 W) (a st dd : Int) (s : ByteArray) (n : Int) (hst : 0 ≤ st) (ha : -9223372036854775808 ≤ a ∧ a ≤ 9223372036854775807) (hc : citeE vol3 err3 a st dd = (s, n)) :
    Calls Tryz.prog 20 #[.agg #[.int .i64 3, .int .i64 50, .int .i64 3, .int .i64 10, .slice A 2 c], .slice A0 3 c0, .int .i64 a, .int .u8 st, .int .i64 dd] W fun e w' => e = .returned (.tuple #[.string s, .int .i64 n]) ∧ Mid w1 A c A0 c0 w' ∧ Below W.heap.size W w' := by
  refine (Cite_any _ _ vol3 err3 a st dd W h.vol vol3_small h.err (by decide) err3_fits hst ha h.glob).mono ?_
  rw [hc]
  rintro e w' ⟨rfl, hb⟩
  exact ⟨rfl, h.below hb, hb⟩
theorem mid_resolve (h : Mid w1 A c A0 c0 W) (t : ByteArray) (a d n : Int) (hl : t.size ≤ 100000) (hr : resolveE vol3 err3 t.data.toList = (a, d, n)) :
    Calls Tryz.prog 21 #[.agg #[.int .i64 3, .int .i64 50, .int .i64 3, .int .i64 10, .slice A 2 c], .slice A0 3 c0, .string t] W fun e w' => e = .returned (.tuple #[.int .i64 a, .int .i64 d, .int .i64 n]) ∧ Mid w1 A c A0 c0 w' ∧ Below W.heap.size W w' := by
  refine (Resolve_any _ _ vol3 err3 t W h.vol vol3_small h.err (by decide) err3_fits hl h.glob).mono ?_
  rw [hr]
  rintro e w' ⟨rfl, hb⟩
  exact ⟨rfl, h.below hb, hb⟩
theorem mid_readg (h : Mid w1 A c A0 c0 W) (ev : Value) (er : List Err) (he : RdE W ev er) (dd n : Int) (l : List Para) (hl : er.length ≤ 1000) (hf : ∀ y ∈ er, y.fits) (h1 : readE vol3 er dd = n) (h2 : readL vol3 er dd = l) :
    Calls Tryz.prog 13 #[.agg #[.int .i64 3, .int .i64 50, .int .i64 3, .int .i64 10, .slice A 2 c], ev, .int .i64 dd] W fun e w' => ∃ v, e = .returned (.tuple #[v, .int .i64 n]) ∧ RdP w' v l ∧ Mid w1 A c A0 c0 w' ∧ Below W.heap.size W w' := by
  refine (Read_any _ _ vol3 er dd W h.vol vol3_small he hl hf).mono ?_
  rw [h1, h2]
  rintro e w' ⟨v, rfl, ho, hb⟩
  exact ⟨v, rfl, ho.rd, h.below hb, hb⟩
end
def sAt : ByteArray := ⟨#[49, 50, 64, 52, 52]⟩
def sX : ByteArray := ⟨#[120]⟩
def sA1 : ByteArray := ⟨#[97]⟩
def sNo : ByteArray := ⟨#[118, 111, 108, 46, 32, 51, 44, 32, 99, 111, 108, 46, 32, 50, 44, 32, 108, 46, 32, 51]⟩
def sZero : ByteArray := ⟨#[118, 111, 108, 46, 32, 51, 44, 32, 99, 111, 108, 46, 32, 48, 50, 44, 32, 108, 46, 32, 49]⟩
def sFour : ByteArray := ⟨#[118, 111, 108, 46, 32, 52, 44, 32, 52, 48, 44, 32, 112, 97, 114, 46, 32, 50]⟩
def parasN : List Para := [⟨11, sHouse⟩, ⟨12, sPray⟩, ⟨15, sBill⟩]
def errTwo : Err := ⟨2, 0, 0, 0, ⟨#[]⟩, 0⟩
def errX : Err := ⟨4, 59, 0, 20, sX, 0⟩
def err1 : Err := ⟨1, 45, 0, 12, sSaid, 0⟩
theorem names_read : readE vol3 err3 44 = 0 ∧ readL vol3 err3 44 = parasN := by constructor <;> kernel_rfl
theorem names_find1 : findE vol3 err3 11 60 = (sHouse, true, 0) := by kernel_rfl
theorem names_find2 : findE vol3 err3 20 59 = (⟨#[]⟩, false, 7) := by kernel_rfl
theorem names_cite1 : citeE vol3 err3 12 2 44 = (sAt, 0) := by kernel_rfl
theorem names_res1 : resolveE vol3 err3 sAt.data.toList = (12, 44, 0) := by kernel_rfl
theorem names_merge : mergeV (err3 ++ [errTwo]) = ([], 6) := by kernel_rfl
theorem names_readm : readE vol3 err3 (-1) = 2 ∧ readL vol3 err3 (-1) = [] := by constructor <;> kernel_rfl
theorem names_read6 : readE vol3 (err3 ++ [err1]) 0 = 6 ∧ readL vol3 (err3 ++ [err1]) 0 = [] := by constructor <;> kernel_rfl
theorem names_read7 : readE vol3 (err3 ++ [errX]) 0 = 7 ∧ readL vol3 (err3 ++ [errX]) 0 = [] := by constructor <;> kernel_rfl
theorem names_cite2 : citeE vol3 err3 20 0 0 = (⟨#[]⟩, 7) := by kernel_rfl
theorem names_cite3 : citeE vol3 err3 12 3 0 = (⟨#[]⟩, 2) := by kernel_rfl
theorem names_res2 : resolveE vol3 err3 sNo.data.toList = (0, 0, 7) := by kernel_rfl
theorem names_res3 : resolveE vol3 err3 sZero.data.toList = (0, 0, 4) := by kernel_rfl
theorem names_res4 : resolveE vol3 err3 sFour.data.toList = (0, 0, 7) := by kernel_rfl
theorem err1_fits : ∀ y ∈ err3 ++ [err1], y.fits := by
  intro y hy
  simp only [err3, List.cons_append, List.nil_append, List.mem_cons, List.not_mem_nil, or_false] at hy
  rcases hy with rfl | rfl | rfl | rfl <;> (unfold Err.fits; decide)
theorem errX_fits : ∀ y ∈ err3 ++ [errX], y.fits := by
  intro y hy
  simp only [err3, List.cons_append, List.nil_append, List.mem_cons, List.not_mem_nil, or_false] at hy
  rcases hy with rfl | rfl | rfl | rfl <;> (unfold Err.fits; decide)
def volSame : Vol := ⟨3, 50, 3, 10, [⟨40, [⟨1, sA1⟩, ⟨1, sA1⟩]⟩]⟩
def volLate : Vol := ⟨3, 43, 3, 10, vol3.parts⟩
def volMany : Vol := ⟨0, 0, 0, 0, List.replicate 7 ⟨0, []⟩⟩
theorem names_same : checkVol volSame = 6 := by kernel_rfl
theorem names_late : checkVol volLate = 1 := by kernel_rfl
theorem names_many : checkVol volMany = 3 := by kernel_rfl
theorem heapFour (w : World) (o0 o1 o2 o3 : Obj) :
    let W := (((w.alloc o0).alloc o1).alloc o2).alloc o3
    W.heap[w.heap.size + 1]? = some o1 ∧ W.heap[w.heap.size + 1 + 1]? = some o2 ∧ W.heap[w.heap.size + 1 + 1 + 1]? = some o3 ∧ Below w.heap.size w W := by
  obtain ⟨-, h1, h2, h3, -, -⟩ := heapFive w o0 o1 o2 o3 o3
  intro W
  have n1 := World.alloc_heap_new (w.alloc o0) o1
  have n2 := World.alloc_heap_new ((w.alloc o0).alloc o1) o2
  have n3 := World.alloc_heap_new (((w.alloc o0).alloc o1).alloc o2) o3
  simp only [World.size_alloc] at n1 n2 n3
  refine ⟨?_, ?_, n3, ((((Below.refl _ _).alloc (Nat.le_refl _) _).alloc (by simp) _).alloc (by simp; omega) _).alloc (by simp; omega) _⟩
  · rw [Below.heap_alloc _ _ _ (by simp only [World.size_alloc]; omega), Below.heap_alloc _ _ _ (by simp only [World.size_alloc]; omega)]; exact n1
  · rw [Below.heap_alloc _ _ _ (by simp only [World.size_alloc]; omega)]; exact n2
def W4 (W2 : World) (A : Option Addr) (c : Nat) : World :=
  (((W2.alloc (.cells #[.int .i64 3, .int .i64 50, .int .i64 3, .int .i64 10, .slice (some ⟨W2.heap.size + 1 + 1, 0, none⟩) 1 1] 37)).alloc (.cells #[.int .i64 1, .string ⟨#[97]⟩, .int .i64 1, .string ⟨#[97]⟩] 67)).alloc (.cells #[.int .i64 40, .slice (some ⟨W2.heap.size + 1, 0, none⟩) 2 2] 79)).alloc (.cells #[.int .i64 3, .int .i64 43, .int .i64 3, .int .i64 10, .slice A 2 c] 37)
theorem w4_facts {W2 : World} {A : Option Addr} {c : Nat} (hV : IsVol W2 (.agg #[.int .i64 3, .int .i64 50, .int .i64 3, .int .i64 10, .slice A 2 c]) vol3) :
    IsVol (W4 W2 A c) (.agg #[.int .i64 3, .int .i64 50, .int .i64 3, .int .i64 10, .slice (some ⟨W2.heap.size + 1 + 1, 0, none⟩) 1 1]) volSame ∧ IsVol (W4 W2 A c) (.agg #[.int .i64 3, .int .i64 43, .int .i64 3, .int .i64 10, .slice A 2 c]) volLate ∧
      (W4 W2 A c).heap[W2.heap.size + 1 + 1 + 1]? = some (.cells #[.int .i64 3, .int .i64 43, .int .i64 3, .int .i64 10, .slice A 2 c] 37 (0, 0)) ∧ Below W2.heap.size W2 (W4 W2 A c) := by
  obtain ⟨h1, h2, h3, hB⟩ := heapFour W2 (.cells #[.int .i64 3, .int .i64 50, .int .i64 3, .int .i64 10, .slice (some ⟨W2.heap.size + 1 + 1, 0, none⟩) 1 1] 37) (.cells #[.int .i64 1, .string ⟨#[97]⟩, .int .i64 1, .string ⟨#[97]⟩] 67) (.cells #[.int .i64 40, .slice (some ⟨W2.heap.size + 1, 0, none⟩) 2 2] 79) (.cells #[.int .i64 3, .int .i64 43, .int .i64 3, .int .i64 10, .slice A 2 c] 37)
  have hlt : W2.heap.size + 1 + 1 < (W4 W2 A c).heap.size := (Array.getElem?_eq_some_iff.1 h2).1
  refine ⟨?_, ?_, h3, hB⟩
  · refine ⟨_, rfl, _, 1, rfl, Nat.le_refl _, by decide, fun _ => ⟨_, _, rfl, hlt, fun j hj => ?_⟩⟩
    obtain rfl : j = 0 := by have : volSame.parts.length = 1 := rfl; omega
    have h2' : (W4 W2 A c).heap[W2.heap.size + 1 + 1]? = some (.cells #[.int .i64 40, .slice (some ⟨W2.heap.size + 1, 0, none⟩) 2 2] 79 (0, 0)) := h2
    refine ⟨by simp [World.cell?, h2']; rfl, .slice (some ⟨W2.heap.size + 1, 0, none⟩) 2 2, by simp [World.cell?, h2'], rd_of_cells EP 67 h1 rfl rfl (by decide)⟩
  · obtain ⟨sv, e, hx⟩ := hV.below hB
    have e2 : sv = .slice A 2 c := by
      simp only [Vol.val, Value.agg.injEq] at e
      have := congrArg (fun a : Array Value => a[4]?) e
      simpa using this.symm
    subst e2
    exact ⟨_, rfl, hx⟩
theorem vs_small : volSame.small ∧ volLate.small ∧ volMany.small := by
  refine ⟨⟨by decide, fun p hp => ?_⟩, ⟨by decide, fun p hp => ?_⟩, ⟨by decide, fun p hp => ?_⟩⟩
  · simp only [volSame, List.mem_cons, List.not_mem_nil, or_false] at hp
    subst hp
    simp; decide
  · exact vol3_small.2 p hp
  · simp only [volMany, List.mem_replicate] at hp
    rw [hp.2]; simp
theorem make_seven (W : World) : (Instr.makeSlice 35 (.int .i64 7) (.int .i64 7)).run Tryz.prog W = .ok (.slice (some ⟨W.heap.size, 0, none⟩) 7 7) (W.alloc (.cells #[.int .i64 0, .slice none 0 0, .int .i64 0, .slice none 0 0, .int .i64 0, .slice none 0 0, .int .i64 0, .slice none 0 0, .int .i64 0, .slice none 0 0, .int .i64 0, .slice none 0 0, .int .i64 0, .slice none 0 0] 79)) := by kernel_rfl
theorem is_many (W : World) : IsVol (W.alloc (.cells #[.int .i64 0, .slice none 0 0, .int .i64 0, .slice none 0 0, .int .i64 0, .slice none 0 0, .int .i64 0, .slice none 0 0, .int .i64 0, .slice none 0 0, .int .i64 0, .slice none 0 0, .int .i64 0, .slice none 0 0] 79)) (.agg #[.int .i64 0, .int .i64 0, .int .i64 0, .int .i64 0, .slice (some ⟨W.heap.size, 0, none⟩) 7 7]) volMany := by
  refine ⟨_, rfl, _, 7, rfl, by simp [volMany], by simp [volMany], fun _ => ⟨_, _, rfl, by simp, fun j hj => ?_⟩⟩
  have hj : j < 7 := by simpa [volMany] using hj
  have hp : volMany.parts[j]'(by simpa [volMany] using hj) = ⟨0, []⟩ := List.getElem_replicate (n := 7) (a := (⟨0, []⟩ : Part)) (by simpa [volMany] using hj)
  rw [hp]
  have hh := World.alloc_heap_new W (.cells #[.int .i64 0, .slice none 0 0, .int .i64 0, .slice none 0 0, .int .i64 0, .slice none 0 0, .int .i64 0, .slice none 0 0, .int .i64 0, .slice none 0 0, .int .i64 0, .slice none 0 0, .int .i64 0, .slice none 0 0] 79)
  refine ⟨?_, .slice none 0 0, ?_, ⟨none, 0, rfl, Nat.le_refl _, by simp, fun h => by simp at h⟩⟩
  · simp only [World.cell?, hh]
    rcases (show j = 0 ∨ j = 1 ∨ j = 2 ∨ j = 3 ∨ j = 4 ∨ j = 5 ∨ j = 6 by omega) with rfl | rfl | rfl | rfl | rfl | rfl | rfl <;> rfl
  · simp only [World.cell?, hh]
    rcases (show j = 0 ∨ j = 1 ∨ j = 2 ∨ j = 3 ∨ j = 4 ∨ j = 5 ∨ j = 6 by omega) with rfl | rfl | rfl | rfl | rfl | rfl | rfl <;> rfl
theorem cmp_parasN {w1 : World} {A : Option Addr} {c : Nat} {A0 : Option Addr} {c0 : Nat} {W : World} (h : Mid w1 A c A0 c0 W) (v1 : Value) (hv : RdP W v1 parasN) :
    Calls Tryz.prog 16 #[v1, .slice (some ⟨W.heap.size, 0, none⟩) 3 3] (W.alloc (.cells #[.int .i64 11, .string sHouse, .int .i64 12, .string sPray, .int .i64 15, .string sBill] 67)) fun e w' => e = .returned (.bool true) ∧ Mid w1 A c A0 c0 w' ∧ Below W.heap.size W w' := by
  have hB : Below W.heap.size W (W.alloc (.cells #[.int .i64 11, .string sHouse, .int .i64 12, .string sPray, .int .i64 15, .string sBill] 67)) := (Below.refl _ _).alloc (Nat.le_refl _) _
  refine (parascmp_any v1 _ parasN parasN _ (Rd.below hv hB) (rd_of_cells EP 67 (World.alloc_heap_new W _) rfl rfl (by decide))).mono ?_
  rintro e w' ⟨b, rfl, hb, hb2⟩
  have hb3 : Below W.heap.size W w' := hB.trans (hb2.mono (by simp))
  exact ⟨by rw [hb.2 rfl], h.below hb3, hb3⟩
theorem mid_merge {w1 : World} {A : Option Addr} {c : Nat} {A0 : Option Addr} {c0 : Nat} {W : World} (h : Mid w1 A c A0 c0 W) :
    Calls Tryz.prog 26 #[.slice A0 3 c0, .slice (some ⟨W.heap.size, 0, none⟩) 1 1] (W.alloc (.cells #[.int .i64 2, .int .i64 0, .int .u8 0, .int .i64 0, .string ⟨#[]⟩, .int .i64 0] 77)) fun e w' => ∃ v, e = .returned (.tuple #[v, .int .i64 6]) ∧ Mid w1 A c A0 c0 w' ∧ Below W.heap.size W w' := by
  have hB : Below W.heap.size W (W.alloc (.cells #[.int .i64 2, .int .i64 0, .int .u8 0, .int .i64 0, .string ⟨#[]⟩, .int .i64 0] 77)) := (Below.refl _ _).alloc (Nat.le_refl _) _
  have h2 := merge_any (.slice A0 3 c0) (.slice (some ⟨W.heap.size, 0, none⟩) 1 1) err3 [errTwo] _ (Rd.below h.err hB) (rd_of_cells EE 77 (World.alloc_heap_new W _) rfl rfl (by decide)) (by decide) (by decide) (by
    intro y hy
    simp only [err3, List.cons_append, List.nil_append, List.mem_cons, List.not_mem_nil, or_false] at hy
    rcases hy with rfl | rfl | rfl | rfl <;> exact inI64_of (by decide) (by decide))
  unfold MergePost at h2
  rw [names_merge] at h2
  refine h2.mono ?_
  rintro e w' ⟨v, rfl, -, hb2⟩
  have hb3 : Below W.heap.size W w' := hB.trans (hb2.mono (by simp))
  exact ⟨v, rfl, h.below hb3, hb3⟩
set_option maxHeartbeats 8000000 in
set_option maxRecDepth 100000 in
theorem names_any (w : World) (hG : Glob w) : Calls Tryz.prog 9 #[] w fun e w' => e = .returned (.bool true) ∧ Below w.heap.size w w' := by
  have q1 : sHouse.toList = [84, 104, 101, 32, 72, 111, 117, 115, 101, 32, 109, 101, 116, 32, 97, 116, 32, 116, 119, 111, 46] := by rw [Lib.toList_data]; rfl
  have q2 : sAt.toList = [49, 50, 64, 52, 52] := by rw [Lib.toList_data]; rfl
  go_enter Tryz.func9, Tryz.ntmps9
  go_wp2_with (fail)
  refine (mid_third w hG).mono ?_
  rintro e w1 ⟨A, c, A0, c0, rfl, hM, hB1⟩
  have hBw : Below w.heap.size w (w1.alloc (.cells #[.int .i64 3, .int .i64 50, .int .i64 3, .int .i64 10, .slice A 2 c] 37)) := hB1.alloc hB1.size _
  have k0 := hM.k0; have k1 := hM.k1; have k2 := hM.k2; have k3 := hM.k3; have k4 := hM.k4
  clear hB1
  go_wp2_with (fail)
  refine (mid_readg hM _ err3 hM.err 44 0 parasN (by decide) err3_fits names_read.1 names_read.2).mono ?_
  rintro e W2 ⟨v1, rfl, hA, hM, hb⟩
  ((try clear k0 k1 k2 k3 k4); have k0 := hM.k0; have k1 := hM.k1; have k2 := hM.k2; have k3 := hM.k3; have k4 := hM.k4; have hBw := hBw.trans (hb.mono hBw.size); clear hb)
  go_wp2_with (fail)
  refine (mid_find hM 11 60 _ _ _ names_find1).mono ?_
  rintro e W2 ⟨rfl, hM, hb⟩
  have hA := Rd.below hA hb
  ((try clear k0 k1 k2 k3 k4); have k0 := hM.k0; have k1 := hM.k1; have k2 := hM.k2; have k3 := hM.k3; have k4 := hM.k4; have hBw := hBw.trans (hb.mono hBw.size); clear hb)
  go_wp2_with (fail)
  refine (mid_find hM 20 59 _ _ _ names_find2).mono ?_
  rintro e W2 ⟨rfl, hM, hb⟩
  have hA := Rd.below hA hb
  ((try clear k0 k1 k2 k3 k4); have k0 := hM.k0; have k1 := hM.k1; have k2 := hM.k2; have k3 := hM.k3; have k4 := hM.k4; have hBw := hBw.trans (hb.mono hBw.size); clear hb)
  go_wp2_with (fail)
  refine (mid_cite hM 12 2 44 _ _ (by decide) (by decide) names_cite1).mono ?_
  rintro e W2 ⟨rfl, hM, hb⟩
  have hA := Rd.below hA hb
  ((try clear k0 k1 k2 k3 k4); have k0 := hM.k0; have k1 := hM.k1; have k2 := hM.k2; have k3 := hM.k3; have k4 := hM.k4; have hBw := hBw.trans (hb.mono hBw.size); clear hb)
  go_wp2_with (fail)
  refine (mid_resolve hM sAt _ _ _ (by decide) names_res1).mono ?_
  rintro e W2 ⟨rfl, hM, hb⟩
  have hA := Rd.below hA hb
  ((try clear k0 k1 k2 k3 k4); have k0 := hM.k0; have k1 := hM.k1; have k2 := hM.k2; have k3 := hM.k3; have k4 := hM.k4; have hBw := hBw.trans (hb.mono hBw.size); clear hb)
  go_wp2_with (fail)
  refine (cmp_parasN hM _ hA).mono ?_
  rintro e W2 ⟨rfl, hM, hb⟩
  clear hA
  ((try clear k0 k1 k2 k3 k4); have k0 := hM.k0; have k1 := hM.k1; have k2 := hM.k2; have k3 := hM.k3; have k4 := hM.k4; have hBw := hBw.trans (hb.mono hBw.size); clear hb)
  go_wp2_with (fail)
  refine (mid_merge hM).mono ?_
  rintro e W2 ⟨m1, rfl, hM, hb⟩
  ((try clear k0 k1 k2 k3 k4); have k0 := hM.k0; have k1 := hM.k1; have k2 := hM.k2; have k3 := hM.k3; have k4 := hM.k4; have hBw := hBw.trans (hb.mono hBw.size); clear hb)
  go_wp2_with (fail)
  refine (mid_readg hM _ err3 hM.err (-1) 2 [] (by decide) err3_fits names_readm.1 names_readm.2).mono ?_
  rintro e WX ⟨m2, rfl, -, hM, hb⟩
  ((try clear k0 k1 k2 k3 k4); have k0 := hM.k0; have k1 := hM.k1; have k2 := hM.k2; have k3 := hM.k3; have k4 := hM.k4; have hBw := hBw.trans (hb.mono hBw.size); clear hb)
  go_wp2_with (fail)
  obtain ⟨A9, c9, e9, -, -, hr9⟩ := hM.err
  cases e9
  obtain ⟨b, off, rfl, hbl, hrow⟩ := hr9 (by decide)
  have g0 : WX.cell? ⟨b, off, none⟩ = some (.int .i64 1) := hrow 0 (by decide) 0 _ rfl
  have g1 : WX.cell? ⟨b, off + 1, none⟩ = some (.int .i64 45) := hrow 0 (by decide) 1 _ rfl
  have g2 : WX.cell? ⟨b, off + 2, none⟩ = some (.int .u8 0) := hrow 0 (by decide) 2 _ rfl
  have g3 : WX.cell? ⟨b, off + 3, none⟩ = some (.int .i64 12) := hrow 0 (by decide) 3 _ rfl
  have g4 : WX.cell? ⟨b, off + 4, none⟩ = some (.string sSaid) := hrow 0 (by decide) 4 _ rfl
  have g5 : WX.cell? ⟨b, off + 5, none⟩ = some (.int .i64 0) := hrow 0 (by decide) 5 _ rfl
  clear hr9 hrow
  have M1 := more1T WX err1 err3 (.slice (some ⟨b, off, none⟩) 3 c0) hM.err
  have M2 := more2T WX err1 err3 (.slice (some ⟨b, off, none⟩) 3 c0) hM.err
  have M3 := more3T WX err1 err3 (.slice (some ⟨b, off, none⟩) 3 c0) hM.err
  have HM := Lib.hid hM
  have CELLS : Hid (∀ W, Below WX.heap.size WX W → W.cell? ⟨w1.heap.size, 0, none⟩ = some (.int .i64 3) ∧ W.cell? ⟨w1.heap.size, 1, none⟩ = some (.int .i64 50) ∧ W.cell? ⟨w1.heap.size, 2, none⟩ = some (.int .i64 3) ∧ W.cell? ⟨w1.heap.size, 3, none⟩ = some (.int .i64 10) ∧ W.cell? ⟨w1.heap.size, 4, none⟩ = some (.slice A 2 c) ∧ W.cell? ⟨b, off, none⟩ = some (.int .i64 1) ∧ W.cell? ⟨b, off + 1, none⟩ = some (.int .i64 45) ∧ W.cell? ⟨b, off + 2, none⟩ = some (.int .u8 0) ∧ W.cell? ⟨b, off + 3, none⟩ = some (.int .i64 12) ∧ W.cell? ⟨b, off + 4, none⟩ = some (.string sSaid) ∧ W.cell? ⟨b, off + 5, none⟩ = some (.int .i64 0)) := Lib.hid fun W h => by
    have h2 := HM.out.below h
    exact ⟨h2.k0, h2.k1, h2.k2, h2.k3, h2.k4, by rw [h.cell (p := ⟨b, _, none⟩) hbl]; exact g0, by rw [h.cell (p := ⟨b, _, none⟩) hbl]; exact g1, by rw [h.cell (p := ⟨b, _, none⟩) hbl]; exact g2, by rw [h.cell (p := ⟨b, _, none⟩) hbl]; exact g3, by rw [h.cell (p := ⟨b, _, none⟩) hbl]; exact g4, by rw [h.cell (p := ⟨b, _, none⟩) hbl]; exact g5⟩
  clear hM
  go_cut [21] from 137 to 148 (fun s wx => Aside (s = .int .i64 6 ∧ Mid w1 (A) c (some ⟨b, off, none⟩) c0 wx ∧ Below WX.heap.size WX wx))
  case first =>
    go_region_held3 (fun w' => w'.cell? ⟨w1.heap.size, 0, none⟩ = some (.int .i64 3) ∧ w'.cell? ⟨w1.heap.size, 1, none⟩ = some (.int .i64 50) ∧ w'.cell? ⟨w1.heap.size, 2, none⟩ = some (.int .i64 3) ∧ w'.cell? ⟨w1.heap.size, 3, none⟩ = some (.int .i64 10) ∧ w'.cell? ⟨w1.heap.size, 4, none⟩ = some (.slice (A) 2 c) ∧ w'.cell? ⟨b, off, none⟩ = some (.int .i64 1) ∧ w'.cell? ⟨b, off + 1, none⟩ = some (.int .i64 45) ∧ w'.cell? ⟨b, off + 2, none⟩ = some (.int .u8 0) ∧ w'.cell? ⟨b, off + 3, none⟩ = some (.int .i64 12) ∧ w'.cell? ⟨b, off + 4, none⟩ = some (.string sSaid) ∧ w'.cell? ⟨b, off + 5, none⟩ = some (.int .i64 0)) (go_keep)
      (first
        | (refine step_append_rd EE WX.heap.size (by rfl) _ _ 39 77 _ 56 (by rfl) Tryz.underlying39 Tryz.infoErr5 rfl (by decide) (.slice (some ⟨WX.heap.size + 1, 0, none⟩) 0 0) (.slice (some ⟨b, off, none⟩) 3 c0) [] err3 (by rfl) (by rfl) M1.own M1.rd M1.base (by decide) ?_; intro v1 wa hO1 hg1 hb1 hat1; have KR := kept1T (y := err1) hg1; have hB1 := ((((Below.refl WX.heap.size WX).alloc (Nat.le_refl _) _).alloc (by simp) _).drewN 1).trans hb1; obtain ⟨a0, a1, a2, a3, a4, b0, b1, b2, b3, b4, b5⟩ := CELLS.out wa hB1; clear M1 M2 M3)
        | (refine step_append_rd EE WX.heap.size (by rfl) _ _ 39 77 _ 56 (by rfl) Tryz.underlying39 Tryz.infoErr5 rfl (by decide) (.slice (some ⟨WX.heap.size, 0, none⟩) 0 0) (.slice (some ⟨b, off, none⟩) 3 c0) [] err3 (by rfl) (by rfl) M2.own M2.rd M2.base (by decide) ?_; intro v1 wa hO1 hg1 hb1 hat1; have KR := kept2T (y := err1) hg1; have hB1 := ((((Below.refl WX.heap.size WX).alloc (Nat.le_refl _) _).alloc (by simp) _).drewN 1).trans hb1; obtain ⟨a0, a1, a2, a3, a4, b0, b1, b2, b3, b4, b5⟩ := CELLS.out wa hB1; clear M1 M2 M3)
        | (refine step_append_rd EE WX.heap.size (by rfl) _ _ 39 77 _ 56 (by rfl) Tryz.underlying39 Tryz.infoErr5 rfl (by decide) (.slice (some ⟨WX.heap.size, 0, none⟩) 0 0) (.slice (some ⟨b, off, none⟩) 3 c0) [] err3 (by rfl) (by rfl) M3.own M3.rd M3.base (by decide) ?_; intro v1 wa hO1 hg1 hb1 hat1; have hB1 := (((Below.refl WX.heap.size WX).alloc (Nat.le_refl _) _).drewN 1).trans hb1; obtain ⟨a0, a1, a2, a3, a4, b0, b1, b2, b3, b4, b5⟩ := CELLS.out wa hB1; have KR := err_blockT (y := err1) (World.alloc_heap_new wa _); have hO1 := hO1.alloc (.cells (EE.f err1).toArray 77); have hB1 := hB1.alloc hB1.size (.cells (EE.f err1).toArray 77); clear M1 M2 M3)
        | (refine step_append_rd EE WX.heap.size (by rfl) _ _ 39 77 _ 56 (by rfl) Tryz.underlying39 Tryz.infoErr5 rfl (by decide) v1 _ err3 [err1] (by rfl) (by rfl) hO1 KR hB1.size (by decide) ?_; intro v2 wb hO2 hg2 hb2 hat2; have hB2 := hB1.trans hb2; obtain ⟨a0, a1, a2, a3, a4, b0, b1, b2, b3, b4, b5⟩ := CELLS.out wb hB2; have HM2 := Lib.hid (HM.out.below hB2); have hRE : RdE wb v2 (err3 ++ [err1]) := hO2.rd)
        | (go_at_call 13; refine (mid_readg HM2.out _ (err3 ++ [err1]) hRE 0 6 [] (by decide) err1_fits names_read6.1 names_read6.2).mono ?_; rintro e WR ⟨m3, rfl, -, hM3, hb3⟩; have hB3 := hB2.trans (hb3.mono hB2.size); obtain ⟨a0, a1, a2, a3, a4, b0, b1, b2, b3, b4, b5⟩ := CELLS.out WR hB3; have HM3 := Lib.hid hM3; clear hM3))
    all_goals (go_wp2_with fail; go_meet; exact ⟨rfl, HM3.out, hB3⟩)
  case rest =>
  obtain ⟨e21, hM, hb⟩ := hcut.out
  subst e21
  clear hcut M1 M2 M3 CELLS HM g0 g1 g2 g3 g4 g5
  ((try clear k0 k1 k2 k3 k4); have k0 := hM.k0; have k1 := hM.k1; have k2 := hM.k2; have k3 := hM.k3; have k4 := hM.k4; have hBw := hBw.trans (hb.mono hBw.size); clear hb)
  go_wp2_with (fail)
  rename World => WY
  have M1 := more1T WY errX err3 (.slice (some ⟨b, off, none⟩) 3 c0) hM.err
  have M2 := more2T WY errX err3 (.slice (some ⟨b, off, none⟩) 3 c0) hM.err
  have M3 := more3T WY errX err3 (.slice (some ⟨b, off, none⟩) 3 c0) hM.err
  have HM := Lib.hid hM
  have CELLS : Hid (∀ W, Below WY.heap.size WY W → W.cell? ⟨w1.heap.size, 0, none⟩ = some (.int .i64 3) ∧ W.cell? ⟨w1.heap.size, 1, none⟩ = some (.int .i64 50) ∧ W.cell? ⟨w1.heap.size, 2, none⟩ = some (.int .i64 3) ∧ W.cell? ⟨w1.heap.size, 3, none⟩ = some (.int .i64 10) ∧ W.cell? ⟨w1.heap.size, 4, none⟩ = some (.slice A 2 c)) := Lib.hid fun W h => by
    have h2 := HM.out.below h
    exact ⟨h2.k0, h2.k1, h2.k2, h2.k3, h2.k4⟩
  clear hM
  go_cut [23] from 150 to 159 (fun s wx => Aside (s = .int .i64 7 ∧ Mid w1 (A) c (some ⟨b, off, none⟩) c0 wx ∧ Below WY.heap.size WY wx))
  case first =>
    go_region_held3 (fun w' => w'.cell? ⟨w1.heap.size, 0, none⟩ = some (.int .i64 3) ∧ w'.cell? ⟨w1.heap.size, 1, none⟩ = some (.int .i64 50) ∧ w'.cell? ⟨w1.heap.size, 2, none⟩ = some (.int .i64 3) ∧ w'.cell? ⟨w1.heap.size, 3, none⟩ = some (.int .i64 10) ∧ w'.cell? ⟨w1.heap.size, 4, none⟩ = some (.slice (A) 2 c)) (go_keep)
      (first
        | (refine step_append_rd EE WY.heap.size (by rfl) _ _ 39 77 _ 56 (by rfl) Tryz.underlying39 Tryz.infoErr5 rfl (by decide) (.slice (some ⟨WY.heap.size + 1, 0, none⟩) 0 0) (.slice (some ⟨b, off, none⟩) 3 c0) [] err3 (by rfl) (by rfl) M1.own M1.rd M1.base (by decide) ?_; intro v1 wa hO1 hg1 hb1 hat1; have KR := kept1T (y := errX) hg1; have hB1 := ((((Below.refl WY.heap.size WY).alloc (Nat.le_refl _) _).alloc (by simp) _).drewN 1).trans hb1; obtain ⟨a0, a1, a2, a3, a4⟩ := CELLS.out wa hB1; clear M1 M2 M3)
        | (refine step_append_rd EE WY.heap.size (by rfl) _ _ 39 77 _ 56 (by rfl) Tryz.underlying39 Tryz.infoErr5 rfl (by decide) (.slice (some ⟨WY.heap.size, 0, none⟩) 0 0) (.slice (some ⟨b, off, none⟩) 3 c0) [] err3 (by rfl) (by rfl) M2.own M2.rd M2.base (by decide) ?_; intro v1 wa hO1 hg1 hb1 hat1; have KR := kept2T (y := errX) hg1; have hB1 := ((((Below.refl WY.heap.size WY).alloc (Nat.le_refl _) _).alloc (by simp) _).drewN 1).trans hb1; obtain ⟨a0, a1, a2, a3, a4⟩ := CELLS.out wa hB1; clear M1 M2 M3)
        | (refine step_append_rd EE WY.heap.size (by rfl) _ _ 39 77 _ 56 (by rfl) Tryz.underlying39 Tryz.infoErr5 rfl (by decide) (.slice (some ⟨WY.heap.size, 0, none⟩) 0 0) (.slice (some ⟨b, off, none⟩) 3 c0) [] err3 (by rfl) (by rfl) M3.own M3.rd M3.base (by decide) ?_; intro v1 wa hO1 hg1 hb1 hat1; have hB1 := (((Below.refl WY.heap.size WY).alloc (Nat.le_refl _) _).drewN 1).trans hb1; obtain ⟨a0, a1, a2, a3, a4⟩ := CELLS.out wa hB1; have KR := err_blockT (y := errX) (World.alloc_heap_new wa _); have hO1 := hO1.alloc (.cells (EE.f errX).toArray 77); have hB1 := hB1.alloc hB1.size (.cells (EE.f errX).toArray 77); clear M1 M2 M3)
        | (refine step_append_rd EE WY.heap.size (by rfl) _ _ 39 77 _ 56 (by rfl) Tryz.underlying39 Tryz.infoErr5 rfl (by decide) v1 _ err3 [errX] (by rfl) (by rfl) hO1 KR hB1.size (by decide) ?_; intro v2 wb hO2 hg2 hb2 hat2; have hB2 := hB1.trans hb2; obtain ⟨a0, a1, a2, a3, a4⟩ := CELLS.out wb hB2; have HM2 := Lib.hid (HM.out.below hB2); have hRE : RdE wb v2 (err3 ++ [errX]) := hO2.rd)
        | (go_at_call 13; refine (mid_readg HM2.out _ (err3 ++ [errX]) hRE 0 7 [] (by decide) errX_fits names_read7.1 names_read7.2).mono ?_; rintro e WR ⟨m3, rfl, -, hM3, hb3⟩; have hB3 := hB2.trans (hb3.mono hB2.size); obtain ⟨a0, a1, a2, a3, a4⟩ := CELLS.out WR hB3; have HM3 := Lib.hid hM3; clear hM3))
    all_goals (go_wp2_with fail; go_meet; exact ⟨rfl, HM3.out, hB3⟩)
  case rest =>
  obtain ⟨e23, hM, hb⟩ := hcut.out
  subst e23
  clear hcut M1 M2 M3 CELLS HM 
  ((try clear k0 k1 k2 k3 k4); have k0 := hM.k0; have k1 := hM.k1; have k2 := hM.k2; have k3 := hM.k3; have k4 := hM.k4; have hBw := hBw.trans (hb.mono hBw.size); clear hb)
  go_wp2_with (fail)
  refine (mid_cite hM 20 0 0 _ _ (by decide) (by decide) names_cite2).mono ?_
  rintro e W2 ⟨rfl, hM, hb⟩
  ((try clear k0 k1 k2 k3 k4); have k0 := hM.k0; have k1 := hM.k1; have k2 := hM.k2; have k3 := hM.k3; have k4 := hM.k4; have hBw := hBw.trans (hb.mono hBw.size); clear hb)
  go_wp2_with (fail)
  refine (mid_cite hM 12 3 0 _ _ (by decide) (by decide) names_cite3).mono ?_
  rintro e W2 ⟨rfl, hM, hb⟩
  ((try clear k0 k1 k2 k3 k4); have k0 := hM.k0; have k1 := hM.k1; have k2 := hM.k2; have k3 := hM.k3; have k4 := hM.k4; have hBw := hBw.trans (hb.mono hBw.size); clear hb)
  go_wp2_with (fail)
  refine (mid_resolve hM sNo _ _ _ (by decide) names_res2).mono ?_
  rintro e W2 ⟨rfl, hM, hb⟩
  ((try clear k0 k1 k2 k3 k4); have k0 := hM.k0; have k1 := hM.k1; have k2 := hM.k2; have k3 := hM.k3; have k4 := hM.k4; have hBw := hBw.trans (hb.mono hBw.size); clear hb)
  go_wp2_with (fail)
  refine (mid_resolve hM sZero _ _ _ (by decide) names_res3).mono ?_
  rintro e W2 ⟨rfl, hM, hb⟩
  ((try clear k0 k1 k2 k3 k4); have k0 := hM.k0; have k1 := hM.k1; have k2 := hM.k2; have k3 := hM.k3; have k4 := hM.k4; have hBw := hBw.trans (hb.mono hBw.size); clear hb)
  go_wp2_with (fail)
  refine (mid_resolve hM sFour _ _ _ (by decide) names_res4).mono ?_
  rintro e W2 ⟨rfl, hM, hb⟩
  ((try clear k0 k1 k2 k3 k4); have k0 := hM.k0; have k1 := hM.k1; have k2 := hM.k2; have k3 := hM.k3; have k4 := hM.k4; have hBw := hBw.trans (hb.mono hBw.size); clear hb)
  have hlt : w1.heap.size < W2.heap.size := World.block_lt_of_cell? W2 _ hM.k0
  have hal : ∀ (o1 o2 o3 : Obj) (a : Addr), a.block < W2.heap.size → (((W2.alloc o1).alloc o2).alloc o3).cell? a = W2.cell? a := fun o1 o2 o3 a ha => ((((Below.refl W2.heap.size W2).alloc (Nat.le_refl _) o1).alloc (by simp) o2).alloc (by simp; omega) o3).cell ha
  have l0 : ∀ o1 o2 o3 : Obj, (((W2.alloc o1).alloc o2).alloc o3).cell? ⟨w1.heap.size, 0, none⟩ = some (.int .i64 3) := fun o1 o2 o3 => (hal o1 o2 o3 _ hlt).trans k0
  have l1 : ∀ o1 o2 o3 : Obj, (((W2.alloc o1).alloc o2).alloc o3).cell? ⟨w1.heap.size, 1, none⟩ = some (.int .i64 50) := fun o1 o2 o3 => (hal o1 o2 o3 _ hlt).trans k1
  have l2 : ∀ o1 o2 o3 : Obj, (((W2.alloc o1).alloc o2).alloc o3).cell? ⟨w1.heap.size, 2, none⟩ = some (.int .i64 3) := fun o1 o2 o3 => (hal o1 o2 o3 _ hlt).trans k2
  have l3 : ∀ o1 o2 o3 : Obj, (((W2.alloc o1).alloc o2).alloc o3).cell? ⟨w1.heap.size, 3, none⟩ = some (.int .i64 10) := fun o1 o2 o3 => (hal o1 o2 o3 _ hlt).trans k3
  have l4 : ∀ o1 o2 o3 : Obj, (((W2.alloc o1).alloc o2).alloc o3).cell? ⟨w1.heap.size, 4, none⟩ = some (.slice A 2 c) := fun o1 o2 o3 => (hal o1 o2 o3 _ hlt).trans k4
  clear hal
  go_wp2_with (fail)
  have HBW := Lib.hid hBw
  obtain ⟨F1, F2, F3, F4⟩ := w4_facts hM.vol
  have hG4 := hM.glob.below F4
  have hB4 := HBW.out.trans (F4.mono HBW.out.size)
  clear hM hBw k0 k1 k2 k3 k4 l0 l1 l2 l3 l4 hlt
  refine (CheckVolume_any _ volSame (W4 W2 A c) F1 vs_small.1).mono ?_
  rw [names_same]
  rintro e W5 ⟨rfl, hb⟩
  have F3' : W5.heap[W2.heap.size + 1 + 1 + 1]? = some (.cells #[.int .i64 3, .int .i64 43, .int .i64 3, .int .i64 10, .slice A 2 c] 37 (0, 0)) := (hb.block _ (Array.getElem?_eq_some_iff.1 F3).1).trans F3
  have F2 := F2.below hb
  have hG5 := hG4.below hb
  have hB5 := hB4.trans (hb.mono hB4.size)
  have m0 : W5.cell? ⟨W2.heap.size + 1 + 1 + 1, 0, none⟩ = some (.int .i64 3) := by simp [World.cell?, F3']
  have m1 : W5.cell? ⟨W2.heap.size + 1 + 1 + 1, 1, none⟩ = some (.int .i64 43) := by simp [World.cell?, F3']
  have m2 : W5.cell? ⟨W2.heap.size + 1 + 1 + 1, 2, none⟩ = some (.int .i64 3) := by simp [World.cell?, F3']
  have m3 : W5.cell? ⟨W2.heap.size + 1 + 1 + 1, 3, none⟩ = some (.int .i64 10) := by simp [World.cell?, F3']
  have m4 : W5.cell? ⟨W2.heap.size + 1 + 1 + 1, 4, none⟩ = some (.slice A 2 c) := by simp [World.cell?, F3']
  clear hb F1 F3 F4 hG4 hB4 F3'
  go_wp2_with (fail)
  refine (CheckVolume_any _ volLate _ F2 vs_small.2.1).mono ?_
  rw [names_late]
  rintro e W6 ⟨rfl, hb⟩
  have hG6 := hG5.below hb
  have hB6 := hB5.trans (hb.mono hB5.size)
  clear hb m0 m1 m2 m3 m4 F2 hG5 hB5
  have hmk := make_seven
  go_wp2_with (fail)
  refine (CheckVolume_any _ volMany _ (is_many W6) vs_small.2.2).mono ?_
  rw [names_many]
  rintro e W7 ⟨rfl, hb⟩
  have hb0 : Below W6.heap.size W6 W7 := ((Below.refl _ W6).alloc (Nat.le_refl _) _).trans (hb.mono (by simp))
  have hG7 := hG6.below hb0
  have hB7 := hB6.trans (hb0.mono hB6.size)
  clear hb hb0 hmk hG6 hB6
  go_wp2_with (fail)
  refine (wakes_any _ hG7).mono ?_
  rintro e W8 ⟨rfl, hb⟩
  go_wp2
  go_ret
  exact ⟨rfl, hB7.trans (hb.mono hB7.size)⟩
end Go.Proofs.YtjkmdpejcgepkaaGreatDoor
