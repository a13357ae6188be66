/- spelled: a citation of words and numbers. -/
import Derived.Test.YtjkmdpejcgepkaaGreatDoorD0
import Derived.Test.YtjkmdpejcgepkaaGreatDoorS3
import Derived.Lib.ItoaLen
import Derived.WalkSmall
namespace Go.Proofs.YtjkmdpejcgepkaaGreatDoor
open Go.RowKit
inductive Item where
  | num (n : Int)
  | str (t : ByteArray)
def Item.val : Item → Value
  | .num n => .iface 3 (.int .i64 n)
  | .str t => .iface 9 (.string t)
def Item.txt : Item → List UInt8
  | .num n => Lib.itoa n
  | .str t => t.data.toList
def Item.fits : Item → Prop
  | .num n => -9223372036854775808 ≤ n ∧ n ≤ 9223372036854775807
  | .str t => t.size ≤ 1000
def spell (l : List Item) : List UInt8 := l.flatMap Item.txt
def EI : Enc Item := ⟨fun x => [x.val], 1, fun _ => rfl, fun x u hu => by cases x <;> (simp [Item.val] at hu; subst hu; rfl), by decide⟩
theorem Glob.below {w W : World} (h : Glob w) (hb : Below w.heap.size w W) : Glob W := by
  obtain ⟨h1, ⟨m, h2⟩, ⟨t1, p1, h3⟩, ⟨t2, p2, h4⟩⟩ := h
  have hc : ∀ (a : Addr) (v : Value), w.cell? a = some v → W.cell? a = some v := fun a v ha => (hb.cell (p := a) (World.block_lt_of_cell? w a ha)).trans ha
  exact ⟨var?_below hb (g := 0) (by kernel_rfl) (Nat.lt_of_le_of_lt (by decide) (World.block_lt_of_cell? w _ h3)) h1, ⟨m, hc _ _ h2⟩, ⟨t1, p1, hc _ _ h3⟩, ⟨t2, p2, hc _ _ h4⟩⟩
theorem IsBuilder.below {T e : TypeId} {B b : Nat} {bs : List Value} {w W : World} (h : Lib.IsBuilder T e B b bs w) (hb : Below w.heap.size w W) : Lib.IsBuilder T e B b bs W := by
  have H : ∀ p, Lib.BuilderAt T e B b p bs w → Lib.BuilderAt T e B b p bs W := fun p h => by
    have hlt := h.lt
    obtain ⟨hB, v, hh, ho, hn⟩ := h
    exact ⟨hB, v, by rw [hb.block b hlt]; exact hh, ho.kept (grownBy_of_below hb none) (by cases v.ownBlock <;> simp), hn⟩
  exact h.imp (H _) (H _)
theorem bytes_strCells (t : ByteArray) : Lib.strCells t = Lib.byteCells t.data.toList := rfl
theorem itoa_len (n : Int) (h : -9223372036854775808 ≤ n ∧ n ≤ 9223372036854775807) : (Lib.itoa n).length ≤ 100 := Nat.le_trans (Lib.itoa_length_le n h.1 h.2) (by omega)
theorem spell_len (l : List Item) (h : ∀ x ∈ l, x.fits) : (spell l).length ≤ l.length * 1000 := by
  refine flatMap_le l Item.txt 1000 fun i hi => ?_
  have := h i hi
  cases i with
  | num n => exact Nat.le_trans (itoa_len n this) (by omega)
  | str t => exact Nat.le_trans (Nat.le_of_eq (by simp [Item.txt])) this
theorem ta_int (v : Value) (W : World) : (Instr.typeAssert (.iface 3 v) 20 3 true).run Tryz.prog W = .ok (.tuple #[v, .bool true]) W := by kernel_rfl
theorem ta_str (v : Value) (W : World) : (Instr.typeAssert (.iface 9 v) 20 9 true).run Tryz.prog W = .ok (.tuple #[v, .bool true]) W := by kernel_rfl
theorem ta_no (v : Value) (W : World) : (Instr.typeAssert (.iface 9 v) 20 3 true).run Tryz.prog W = .ok (.tuple #[.int .i64 0, .bool false]) W := by kernel_rfl
def SpellPost (w : World) (l : List Item) (e : Ending) (w' : World) : Prop := e = .returned (.string ⟨(spell l).toArray⟩) ∧ Below w.heap.size w w'
set_option maxHeartbeats 2000000 in
set_option maxRecDepth 100000 in
theorem spelled_any (v : Value) (l : List Item) (w : World) (hv : Rd EI.f EI.k w v l) (hl : l.length ≤ 100) (hf : ∀ x ∈ l, x.fits) (hg : Glob w) : Calls Tryz.prog 38 #[v] w (SpellPost w l) := by
  obtain ⟨A, c, rfl, hc, hm, hr⟩ := id hv
  have HV := Lib.hid hv
  have HG := Lib.hid hg
  have HF := Lib.hid hf
  clear hv hg hf
  go_enter Tryz.func38, Tryz.ntmps38
  go_wp2
  have hI0 := Lib.fresh_isBuilder 143 5 w
  have hB0 : Below w.heap.size w (w.alloc (.cells #[.pointer none, .slice none 0 0] 143)) := (Below.refl _ _).alloc (Nat.le_refl _) _
  go_loopg [12] l.length (fun gg s12 wr => ∃ kk : Nat, kk ≤ l.length ∧ l.length - kk ≤ gg ∧ s12 = .int .i64 kk ∧ Aside (Lib.IsBuilder 143 5 w.heap.size w.heap.size (Lib.byteCells (spell (l.take kk))) wr ∧ Below w.heap.size w wr))
  case atStart => exact ⟨0, Nat.zero_le _, by omega, rfl, hI0, hB0⟩
  case round =>
    obtain ⟨kk, hkk, hg, rfl, A2⟩ := hrel
    have hI := A2.out.1
    have hBw := A2.out.2
    clear hI0 hB0
    by_cases hlt : kk < l.length
    · obtain ⟨b, off, rfl, hb, hr1⟩ := hr (by omega)
      clear hr
      have hc' := hr1.below hb hBw kk hlt 0 _ rfl
      have htk : Hid (spell (l.take (kk + 1)) = spell (l.take kk) ++ l[kk].txt) := Lib.hid (by rw [List.take_succ_eq_append_getElem hlt]; unfold spell; rw [List.flatMap_append, List.flatMap_cons, List.flatMap_nil, List.append_nil])
      have hfk := HF.out _ (List.getElem_mem hlt)
      have hsl := spell_len (l.take kk) (fun x hx => HF.out x (List.mem_of_mem_take hx))
      have hsl2 : (spell (l.take kk)).length ≤ 100000 := by
        have : (l.take kk).length ≤ 100 := by rw [List.length_take]; omega
        omega
      have hbW : b < wr.heap.size := Nat.lt_of_lt_of_le hb hBw.size
      have HGr := Lib.hid (HG.out.below hBw)
      have hzr := hBw.size
      have HBw := Lib.hid hBw
      have HI := Lib.hid hI
      simp only [Nat.add_zero, show EI.k = 1 from rfl, Nat.mul_one] at hc'
      clear A2 hr1 hsl hI hBw
      generalize spell (l.take kk) = P0 at HI htk hsl2
      generalize l[kk] = y at hc' htk hfk
      cases y with
      | num n =>
        dsimp only [Item.val, Item.fits] at hc' hfk
        have hln := itoa_len n hfk
        have hta := ta_int
        have hB1 : w.heap.size ≤ wr.heap.size := hzr
        go_wp2_with (first | (go_at_call 58; refine (itoa_any n hfk.1 hfk.2 _ HGr.out).mono ?_; rintro e w1 ⟨rfl, hb1⟩; have HI1 := Lib.hid (IsBuilder.below HI.out hb1); have hz1 := hb1.size) | (go_at_call 57; refine (writeString_any w.heap.size w.heap.size _ _ _ HI1.out (by rw [Lib.byteCells_length]; simp [ByteArray.size]; omega) (by omega)).mono ?_; rintro e w2 ⟨rfl, hI2, hb2⟩))
        go_roundg (l.length - (kk + 1))
        case measure => exact measT hg hlt
        case rel => exact ⟨kk + 1, hlt, Nat.le_refl _, by go_num, .inr (by rw [htk.out, Lib.byteCells_append]; exact hI2), (HBw.out.go hb1).trans hb2⟩
      | str t =>
        dsimp only [Item.val, Item.fits] at hc' hfk
        have hta := ta_no
        have hta2 := ta_str
        go_wp2_with (first | (go_at_call 57; refine (writeString_any w.heap.size w.heap.size _ _ _ HI.out (by rw [Lib.byteCells_length]; omega) (by omega)).mono ?_; rintro e w2 ⟨rfl, hI2, hb2⟩))
        go_roundg (l.length - (kk + 1))
        case measure => exact measT hg hlt
        case rel => exact ⟨kk + 1, hlt, Nat.le_refl _, by go_num, .inr (by rw [htk.out, Lib.byteCells_append]; exact hI2), HBw.out.trans hb2⟩
    · have : kk = l.length := by omega
      subst this
      rw [List.take_length] at hI
      have hz := hBw.size
      clear A2 hr
      go_wp2_with (first | (go_at_call 59; refine (builderString_any w.heap.size w.heap.size _ _ hI hz).mono ?_; rintro e w2 ⟨rfl, hb2⟩))
      go_ret
      exact ⟨rfl, hBw.trans hb2⟩
end Go.Proofs.YtjkmdpejcgepkaaGreatDoor
