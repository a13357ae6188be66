/- The library's variables, out of the row's list and the world's shape. -/
import Derived.Test.YtjkmdpejcgepkaaGreatDoorCards
import Derived.Test.YtjkmdpejcgepkaaGreatDoorTie
import Derived.Test.YtjkmdpejcgepkaaGreatDoorS3
import Derived.Test.YtjkmdpejcgepkaaGreatDoorR1
import Derived.ProofKit
import Derived.OpenShut
import Derived.LaidMore
import Derived.Lay
import Derived.Lib.LaidTab
import Derived.Shelf.Vars
import Derived.SevenTiedAt
import Derived.Deep.DeepHandedRow
namespace Go.Proofs.YtjkmdpejcgepkaaGreatDoor
open Go.ChangeShapes Go.WideShapes Go.ChangeAt Go.RowKit
theorem own : ownKnob Tryz.prog.godebug = none := by kernel_rfl
theorem laidOutP : laidOutB Tryz.prog = true := by kernel_rfl
/-- the list of the rows -/
def vars5 : List (String × DataW Unit) := Rows.volumeEverRow.laid
theorem iface_of {H : Type} {enc : TypeId × Value → H} {w : World} {base : Nat} {spare : Nat → Bool} {held : Bool} {fuel : Nat} {t : TypeId} {ms : Array (String × TypeId)} {cs : List Value} {n : String} {d : DataW H} {p : List MemPlace} (ht : Tryz.prog.underlying t = some (.interface ms))
    (h : DataW.trod enc Tryz.prog w base spare held fuel t cs = some (.iface n d, p)) : ∃ te pe, cs = [.iface te pe] := by
  cases fuel with
  | zero => simp [DataW.trod] at h
  | succ fuel =>
    unfold DataW.trod at h
    rw [ht] at h
    match cs, h with
    | [.iface u v], _ => exact ⟨u, v, rfl⟩
    | [.nilIface], h => simp at h
theorem glob_of {W : World} (hL : laidMetH Tryz.prog vars5 W) (hsh : W.ShapedOpen Tryz.prog) : Glob W := by
  rw [MakeChecks.laidMetH_plain _ _ _ (by kernel_rfl)] at hL
  obtain ⟨ps, hv, _⟩ := hL
  obtain ⟨g1, t1, cs1, f1, p1, q1, -, -, -, -, hv, -⟩ := hv
  obtain ⟨g2, t2, cs2, f2, p2, q2, -, -, -, -, hv, -⟩ := hv
  obtain ⟨g3, t3, cs3, f3, p3, q3, hg3, ht3, hc3, hd3, hv, -⟩ := hv
  obtain ⟨g4, t4, cs4, f4, p4, q4, hg4, ht4, hc4, hd4, hv, -⟩ := hv
  obtain ⟨g5, t5, cs5, f5, p5, q5, hg5, ht5, hc5, hd5, hv, -⟩ := hv
  obtain rfl := Option.some.inj ((show Tryz.prog.globalNamed "internal/strconv.uint64pow10" = some 0 by kernel_rfl).symm.trans hg3)
  obtain rfl := Option.some.inj ((show (Tryz.prog.globals[0]?).map (·.type) = some 222 by kernel_rfl).symm.trans ht3)
  obtain rfl := Option.some.inj ((show Tryz.prog.globalNamed "strconv.ErrRange" = some 3 by kernel_rfl).symm.trans hg4)
  obtain rfl := Option.some.inj ((show (Tryz.prog.globals[3]?).map (·.type) = some 146 by kernel_rfl).symm.trans ht4)
  obtain rfl := Option.some.inj ((show Tryz.prog.globalNamed "strconv.ErrSyntax" = some 2 by kernel_rfl).symm.trans hg5)
  obtain rfl := Option.some.inj ((show (Tryz.prog.globals[2]?).map (·.type) = some 146 by kernel_rfl).symm.trans ht5)
  obtain ⟨te4, pe4, e4⟩ := iface_of Tryz.underlying146 hd4
  obtain ⟨te5, pe5, e5⟩ := iface_of Tryz.underlying146 hd5
  refine ⟨?_, ?_, ⟨te5, pe5, ?_⟩, ⟨te4, pe4, ?_⟩⟩
  · unfold Lib.TabIs
    rw [hc3, ← Lib.cells_of_tab (k := .u64) (zs := Lib.pow10Tab) Tryz.underlying222 Tryz.underlying187 (by kernel_rfl) (by kernel_rfl) hd3]
  · exact cell_of_shapedOpen_int (P := Tryz.prog) (g := 1) (t := 3) (zero := #[.int .i64 0]) hsh (of_decide_eq_true (by kernel_rfl)) (by kernel_rfl) rfl (by kernel_rfl) (by kernel_rfl) Tryz.underlying3
  · have h : cs5[0]? = some (.iface te5 pe5) := by rw [← Array.getElem?_toList, e5]; rfl
    rw [World.var?_cell hg5 hc5 0, h]
  · have h : cs4[0]? = some (.iface te4 pe4) := by rw [← Array.getElem?_toList, e4]; rfl
    rw [World.var?_cell hg4 hc4 0, h]
end Go.Proofs.YtjkmdpejcgepkaaGreatDoor
