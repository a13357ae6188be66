/- The small tests of package volume: within, day, anchor, text, an erratum by itself. -/
import Derived.Test.YtjkmdpejcgepkaaGreatDoorC1
namespace Go.Proofs.YtjkmdpejcgepkaaGreatDoor
open Go.RowKit
def withinB (n lo hi : Int) : Bool := decide (lo ≤ n ∧ n ≤ hi)
theorem within_any (n lo hi : Int) (w : World) :
    Calls Tryz.prog 40 #[.int .i64 n, .int .i64 lo, .int .i64 hi] w fun e w' => e = .returned (.bool (withinB n lo hi)) ∧ w = w' := by
  unfold withinB
  by_cases h1 : lo ≤ n
  · go_enter Tryz.func40, Tryz.ntmps40
    go_wp2
    go_ret
    simp [h1]
  · go_enter Tryz.func40, Tryz.ntmps40
    go_wp2
    go_ret
    simp; omega
def dayB (n : Int) : Bool := withinB n 0 99999
def anchorB (n : Int) : Bool := withinB n 1 999
theorem day_any (n : Int) (w : World) :
    Calls Tryz.prog 34 #[.int .i64 n] w fun e w' => e = .returned (.bool (dayB n)) ∧ w = w' := by
  go_enter Tryz.func34, Tryz.ntmps34
  go_wp2_with (go_at_call 40; refine (within_any _ _ _ _).mono ?_; rintro e w' ⟨rfl, rfl⟩)
  go_ret
  exact ⟨rfl, rfl⟩
theorem anchor_any (n : Int) (w : World) :
    Calls Tryz.prog 69 #[.int .i64 n] w fun e w' => e = .returned (.bool (anchorB n)) ∧ w = w' := by
  go_enter Tryz.func69, Tryz.ntmps69
  go_wp2_with (go_at_call 40; refine (within_any _ _ _ _).mono ?_; rintro e w' ⟨rfl, rfl⟩)
  go_ret
  exact ⟨rfl, rfl⟩
def plainB (c : UInt8) : Bool := decide (32 ≤ (c.toNat : Int) ∧ (c.toNat : Int) ≤ 126)
theorem text1_pred (w : World) : Pred Tryz.prog 104 #[] (fun x : UInt8 => .int .u8 (x.toNat : Int)) (fun _ => True) plainB w := by
  intro W x _ _
  have h0 : (0 : Int) ≤ (x.toNat : Int) := by omega
  have h1 : (x.toNat : Int) ≤ 255 := by have := x.toNat_lt; omega
  show Calls _ _ #[.int .u8 (x.toNat : Int)] _ _
  unfold plainB
  generalize (x.toNat : Int) = n at h0 h1 ⊢
  by_cases h : 32 ≤ n
  · go_enter Tryz.func104, Tryz.ntmps104
    go_wp2
    go_ret
    exact ⟨by simp [h], Below.refl _ _⟩
  · go_enter Tryz.func104, Tryz.ntmps104
    go_wp2
    go_ret
    exact ⟨ret_bool (by simp; omega), Below.refl _ _⟩
def textB (s : ByteArray) : Bool := withinB s.size 1 200 && s.data.toList.all plainB
theorem bytes_rd (W : World) (s : ByteArray) (c : Nat) (hc : s.size ≤ c) (hs : s.size ≤ 9223372036854775807) : Rd encB 1 (Lib.bytesWorld W 5 s) (.slice (some ⟨W.heap.size, 0, none⟩) s.size c) s.data.toList := by
  have hl : s.data.toList.length = s.size := by rw [Array.length_toList]; rfl
  refine ⟨some ⟨W.heap.size, 0, none⟩, c, by rw [hl], by omega, by omega, fun _ => ⟨_, _, rfl, by rw [Lib.bytesWorld_size]; omega, fun j hj i u hu => ?_⟩⟩
  obtain rfl : i = 0 := by
    have := (List.getElem?_eq_some_iff.1 hu).1
    simpa [encB] using this
  have e := Lib.bytesWorld_cell W 5 s j (by omega)
  simp only [encB, List.getElem?_cons_zero, Option.some.injEq] at hu
  subst hu
  simpa [List.getD_eq_getElem?_getD, Array.getElem?_eq_getElem (show j < s.data.size from by simpa using hj)] using e
theorem text_any (s : ByteArray) (w : World) (hs : s.size ≤ 9223372036854775807) : Calls Tryz.prog 70 #[.string s] w fun e w' => e = .returned (.bool (textB s)) ∧ Below w.heap.size w w' := by
  have kb := fun W => Lib.run_convert_string_bytes (P := Tryz.prog) W 9 141 5 s Tryz.underlying9 Tryz.underlying141 Tryz.underlying5
  have hB : Below w.heap.size w (Lib.bytesWorld w 5 s) := ⟨rfl, rfl, rfl, by rw [Lib.bytesWorld_size]; omega, fun i hi => Lib.bytesWorld_at_old w _ s i (by omega)⟩
  have hcap := grownCap_ge w s.size 0 5
  have hall := all_byte s.data.toList _ 104 #[] (fun _ => True) plainB _ (bytes_rd w s _ hcap hs) (fun _ _ => trivial) (enters_of Tryz.func104 (by kernel_rfl) rfl) (text1_pred _)
  unfold textB
  generalize s.data.toList.all plainB = q at hall ⊢
  cases h : withinB s.size 1 200
  · go_enter Tryz.func70, Tryz.ntmps70
    go_wp2_with (first | (go_at_call 40; refine (within_any _ _ _ _).mono ?_; rintro e w' ⟨rfl, rfl⟩) | (go_at_call 103; refine hall.mono ?_; rintro e w' ⟨rfl, hb⟩))
    go_ret
    exact ⟨by simp, Below.refl _ _⟩
  · go_enter Tryz.func70, Tryz.ntmps70
    go_wp2_with (first | (go_at_call 40; refine (within_any _ _ _ _).mono ?_; rintro e w' ⟨rfl, rfl⟩) | (go_at_call 103; refine hall.mono ?_; rintro e w' ⟨rfl, hb⟩))
    go_ret
    exact ⟨by simp, hB.go hb⟩

def Para.ok (x : Para) : Bool := anchorB x.anchor && textB x.text
def Para.fits (x : Para) : Prop := x.text.size ≤ 9223372036854775807
theorem valid1_pred (w : World) : Pred Tryz.prog 68 #[] Para.val Para.fits Para.ok w := by
  intro W x hs _
  unfold Para.fits at hs
  obtain ⟨a, s⟩ := x
  dsimp only at hs
  show Calls _ _ #[.agg #[.int .i64 a, .string s]] _ fun e w' => e = .returned (.bool (anchorB a && textB s)) ∧ _
  have hB : Below W.heap.size W (W.alloc (.cells #[.int .i64 a, .string s] 67)) := (Below.refl _ _).alloc (Nat.le_refl _) _
  cases h : anchorB a
  · go_enter Tryz.func68, Tryz.ntmps68
    go_wp2_with (first | (go_at_call 69; refine (anchor_any _ _).mono ?_; rintro e w' ⟨rfl, rfl⟩) | (go_at_call 70; refine (text_any _ _ hs).mono ?_; rintro e w' ⟨rfl, hb⟩))
    go_ret
    exact ⟨by simp, hB⟩
  · go_enter Tryz.func68, Tryz.ntmps68
    go_wp2_with (first | (go_at_call 69; refine (anchor_any _ _).mono ?_; rintro e w' ⟨rfl, rfl⟩) | (go_at_call 70; refine (text_any _ _ hs).mono ?_; rintro e w' ⟨rfl, hb⟩))
    go_ret
    exact ⟨by simp, hB.go hb⟩
end Go.Proofs.YtjkmdpejcgepkaaGreatDoor
