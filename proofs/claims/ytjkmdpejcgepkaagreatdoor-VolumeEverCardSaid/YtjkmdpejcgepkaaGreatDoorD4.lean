/- A number of a citation. -/
import Derived.Test.YtjkmdpejcgepkaaGreatDoorD3
namespace Go.Proofs.YtjkmdpejcgepkaaGreatDoor
open Go.RowKit
theorem atoi_ok (s : ByteArray) (hl : s.size ≤ 100000) (v : Int) (h : Lib.atoiAll s.data.toList = .ok v) (w : World) :
    Calls Tryz.prog 87 #[.string s] w fun e w' => e = .returned (.tuple #[.int .i64 v, .nilIface]) ∧ Below w.heap.size w w' :=
  (Any.strconv_Atoi_ok Tryz.laysC172 s (by omega) v h w).mono fun e w' ⟨he, hw⟩ => ⟨he, by
    rcases hw with rfl | ⟨t, rfl⟩
    · exact Below.refl _ _
    · exact ⟨rfl, rfl, rfl, by rw [Lib.bytesWorld_size]; omega, fun i hi => Lib.bytesWorld_at_old w _ t i (by omega)⟩⟩
theorem atoi_bad (s : ByteArray) (hl : s.size ≤ 100000) (h : ∀ v, Lib.atoiAll s.data.toList ≠ .ok v) (w : World) (hg : Glob w) :
    Calls Tryz.prog 87 #[.string s] w fun e w' => ∃ n N, e = .returned (.tuple #[.int .i64 n, .iface 213 (.pointer (some ⟨N, 0, none⟩))]) ∧ Below w.heap.size w w' := by
  cases hc : Lib.atoiAll s.data.toList with
  | ok v => exact absurd hc (h v)
  | range =>
    obtain ⟨te, pe, hv⟩ := hg.range
    exact (Any.strconv_Atoi_range Tryz.laysC172 s (by omega) hc _ w hv (.inr ⟨te, pe, rfl⟩)).mono fun e w' ⟨N, he, _, _, hb⟩ => ⟨_, N, he, hb⟩
  | _ =>
    obtain ⟨te, pe, hv⟩ := hg.synt
    exact (Any.strconv_Atoi_syntax Tryz.laysC172 s (by omega) hc _ w hv (.inr ⟨te, pe, rfl⟩)).mono fun e w' ⟨N, he, _, _, hb⟩ => ⟨_, N, he, hb⟩
/-- blocks of the library's variables lie below B -/
def GB (B : Nat) : Prop := 0 < B ∧ 1 < B ∧ 2 < B ∧ 3 < B
theorem Glob.gb {w : World} (h : Glob w) : GB w.heap.size := by
  obtain ⟨_, ⟨m, h2⟩, ⟨t1, p1, h3⟩, ⟨t2, p2, h4⟩⟩ := h
  have a2 := World.block_lt_of_cell? w _ h2; have a3 := World.block_lt_of_cell? w _ h3; have a4 := World.block_lt_of_cell? w _ h4
  exact ⟨Nat.lt_of_le_of_lt (by decide) a3, a2, a3, a4⟩
theorem Glob.belowB {B : Nat} {w W : World} (h : Glob w) (hB : GB B) (hb : Below B w W) : Glob W := by
  obtain ⟨h1, ⟨m, h2⟩, ⟨t1, p1, h3⟩, ⟨t2, p2, h4⟩⟩ := h
  obtain ⟨b0, b1, b2, b3⟩ := hB
  exact ⟨var?_below hb (g := 0) (by kernel_rfl) b0 h1, ⟨m, (hb.cell (p := ⟨1, 0, none⟩) b1).trans h2⟩, ⟨t1, p1, (hb.cell (p := ⟨2, 0, none⟩) b2).trans h3⟩, ⟨t2, p2, (hb.cell (p := ⟨3, 0, none⟩) b3).trans h4⟩⟩
/-- a number of a text, and what is behind it -/
def wordOf (e r : List UInt8) : Option (List UInt8 × List UInt8) := if e = [] then some (r, r) else if (Lib.cut r e).2.2 = true then some ((Lib.cut r e).1, (Lib.cut r e).2.1) else none
def numOf (word : List UInt8) : Option Int := match Lib.atoiAll word with
  | .ok v => if Lib.itoa v = word ∧ 0 ≤ v ∧ v ≤ 999999 then some v else none
  | _ => none
def numC (e r : List UInt8) : Option (Int × List UInt8) := match wordOf e r with
  | none => none
  | some p => (numOf p.1).map fun v => (v, p.2)
def oddV (cite : ByteArray) : Ending := .panicked [{ v := .iface 153 (.agg #[.string cite]), recovered := false }]
def NumPost (w : World) (base rb : Nat) (cite : ByteArray) (o : Option (Int × List UInt8)) (e : Ending) (w' : World) : Prop :=
  Below base w w' ∧ w.grownBy w' (some rb) ∧ match o with
    | some p => e = .returned (.int .i64 p.1) ∧ w'.heap[rb]? = some (.cells #[.string (bytesOf p.2)] 9 (0, 0))
    | none => e = oddV cite
end Go.Proofs.YtjkmdpejcgepkaaGreatDoor
