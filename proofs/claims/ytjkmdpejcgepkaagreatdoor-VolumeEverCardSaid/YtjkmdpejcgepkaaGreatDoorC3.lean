/- An erratum by itself; the order of errata. -/
import Derived.Test.YtjkmdpejcgepkaaGreatDoorC2
import Derived.Deep.RegionHeld3
import Derived.Sort.Grow
namespace Go.Proofs.YtjkmdpejcgepkaaGreatDoor
open Go.RowKit
def Err.ok (x : Err) : Bool :=
  (withinB x.number 1 999 && dayB x.day && anchorB x.anchor) &&
  (if x.kind = 0 then textB x.text && x.new == 0 else if x.kind = 1 then x.text.toList.isEmpty && x.new == 0 else if x.kind = 2 then textB x.text && anchorB x.new else false)
def Err.fits (x : Err) : Prop := x.text.size ≤ 9223372036854775807
theorem errValid_pred (w : World) : Pred Tryz.prog 53 #[] Err.val Err.fits Err.ok w := by
  intro W x hs _
  obtain ⟨n, d, k, a, s, m⟩ := x
  have hs' : s.size ≤ 9223372036854775807 := hs
  clear hs
  show Calls _ _ #[.agg #[.int .i64 n, .int .i64 d, .int .u8 k, .int .i64 a, .string s, .int .i64 m]] _ _
  have hB : Below W.heap.size W (W.alloc (.cells #[.int .i64 n, .int .i64 d, .int .u8 k, .int .i64 a, .string s, .int .i64 m] 77)) := (Below.refl _ _).alloc (Nat.le_refl _) _
  have R : (Err.mk n d k a s m).ok = ((withinB n 1 999 && dayB d && anchorB a) && (if k = 0 then textB s && m == 0 else if k = 1 then s.toList.isEmpty && m == 0 else if k = 2 then textB s && anchorB m else false)) := rfl
  generalize (Err.mk n d k a s m).ok = r at R ⊢
  cases h1 : withinB n 1 999
  · have H := Lib.hid (show r = false by rw [R]; simp [h1]); clear R
    go_enter Tryz.func53, Tryz.ntmps53; go_wp2_with (first | (go_at_call 40; refine (within_any _ _ _ _).mono ?_; rintro e w' ⟨rfl, rfl⟩) | (go_at_call 34; refine (day_any _ _).mono ?_; rintro e w' ⟨rfl, rfl⟩) | (go_at_call 69; refine (anchor_any _ _).mono ?_; rintro e w' ⟨rfl, rfl⟩) | (go_at_call 70; refine (text_any _ _ hs').mono ?_; rintro e w' ⟨rfl, hb⟩; obtain ⟨hc1, hf1⟩ := bcell hb)); go_ret
    exact ⟨ret_bool H.out.symm, hB⟩
  cases h2 : dayB d
  · have H := Lib.hid (show r = false by rw [R]; simp [h2]); clear R
    go_enter Tryz.func53, Tryz.ntmps53; go_wp2_with (first | (go_at_call 40; refine (within_any _ _ _ _).mono ?_; rintro e w' ⟨rfl, rfl⟩) | (go_at_call 34; refine (day_any _ _).mono ?_; rintro e w' ⟨rfl, rfl⟩) | (go_at_call 69; refine (anchor_any _ _).mono ?_; rintro e w' ⟨rfl, rfl⟩) | (go_at_call 70; refine (text_any _ _ hs').mono ?_; rintro e w' ⟨rfl, hb⟩; obtain ⟨hc1, hf1⟩ := bcell hb)); go_ret
    exact ⟨ret_bool H.out.symm, hB⟩
  cases h3 : anchorB a
  · have H := Lib.hid (show r = false by rw [R]; simp [h3]); clear R
    go_enter Tryz.func53, Tryz.ntmps53; go_wp2_with (first | (go_at_call 40; refine (within_any _ _ _ _).mono ?_; rintro e w' ⟨rfl, rfl⟩) | (go_at_call 34; refine (day_any _ _).mono ?_; rintro e w' ⟨rfl, rfl⟩) | (go_at_call 69; refine (anchor_any _ _).mono ?_; rintro e w' ⟨rfl, rfl⟩) | (go_at_call 70; refine (text_any _ _ hs').mono ?_; rintro e w' ⟨rfl, hb⟩; obtain ⟨hc1, hf1⟩ := bcell hb)); go_ret
    exact ⟨ret_bool H.out.symm, hB⟩
  by_cases k0 : k = 0
  · subst k0
    cases h4 : textB s
    all_goals
      have H := Lib.hid (show r = (textB s && m == 0) by rw [R]; simp [h1, h2, h3]); clear R
      go_enter Tryz.func53, Tryz.ntmps53; go_wp2_with (first | (go_at_call 40; refine (within_any _ _ _ _).mono ?_; rintro e w' ⟨rfl, rfl⟩) | (go_at_call 34; refine (day_any _ _).mono ?_; rintro e w' ⟨rfl, rfl⟩) | (go_at_call 69; refine (anchor_any _ _).mono ?_; rintro e w' ⟨rfl, rfl⟩) | (go_at_call 70; refine (text_any _ _ hs').mono ?_; rintro e w' ⟨rfl, hb⟩; obtain ⟨hc1, hf1⟩ := bcell hb)); go_ret
      exact ⟨ret_bool (by rw [H.out, h4]; simp), hB.go hb⟩
  by_cases k1 : k = 1
  · subst k1
    cases h4 : s.toList.isEmpty
    all_goals
      have H := Lib.hid (show r = (s.toList.isEmpty && m == 0) by rw [R]; simp [h1, h2, h3]); clear R
      go_enter Tryz.func53, Tryz.ntmps53; go_wp2_with (first | (go_at_call 40; refine (within_any _ _ _ _).mono ?_; rintro e w' ⟨rfl, rfl⟩) | (go_at_call 34; refine (day_any _ _).mono ?_; rintro e w' ⟨rfl, rfl⟩) | (go_at_call 69; refine (anchor_any _ _).mono ?_; rintro e w' ⟨rfl, rfl⟩) | (go_at_call 70; refine (text_any _ _ hs').mono ?_; rintro e w' ⟨rfl, hb⟩; obtain ⟨hc1, hf1⟩ := bcell hb)); go_ret
      exact ⟨ret_bool (by rw [H.out, h4]; simp), hB⟩
  have e0 : (k == 0) = false := by simpa using k0
  have e1 : (k == 1) = false := by simpa using k1
  by_cases k2 : k = 2
  · subst k2
    cases h4 : textB s
    all_goals
      have H := Lib.hid (show r = (textB s && anchorB m) by rw [R]; simp [h1, h2, h3]); clear R e0 e1
      go_enter Tryz.func53, Tryz.ntmps53; go_wp2_with (first | (go_at_call 40; refine (within_any _ _ _ _).mono ?_; rintro e w' ⟨rfl, rfl⟩) | (go_at_call 34; refine (day_any _ _).mono ?_; rintro e w' ⟨rfl, rfl⟩) | (go_at_call 69; refine (anchor_any _ _).mono ?_; rintro e w' ⟨rfl, rfl⟩) | (go_at_call 70; refine (text_any _ _ hs').mono ?_; rintro e w' ⟨rfl, hb⟩; obtain ⟨hc1, hf1⟩ := bcell hb)); go_ret
      exact ⟨ret_bool (by rw [H.out, h4]; simp), hB.go hb⟩
  have e2 : (k == 2) = false := by simpa using k2
  have H := Lib.hid (show r = false by rw [R]; simp [k0, k1, k2]); clear R
  go_enter Tryz.func53, Tryz.ntmps53; go_wp2_with (first | (go_at_call 40; refine (within_any _ _ _ _).mono ?_; rintro e w' ⟨rfl, rfl⟩) | (go_at_call 34; refine (day_any _ _).mono ?_; rintro e w' ⟨rfl, rfl⟩) | (go_at_call 69; refine (anchor_any _ _).mono ?_; rintro e w' ⟨rfl, rfl⟩) | (go_at_call 70; refine (text_any _ _ hs').mono ?_; rintro e w' ⟨rfl, hb⟩; obtain ⟨hc1, hf1⟩ := bcell hb)); go_ret
  exact ⟨ret_bool H.out.symm, hB⟩
def cmpI (a b : Int) : Int := if a < b then -1 else if b < a then 1 else 0
theorem isNaN_any (a : Int) (w : World) : Calls Tryz.prog 100 #[.int .i64 a] w fun e w' => e = .returned (.bool false) ∧ w = w' := by
  go_enter Tryz.func100, Tryz.ntmps100
  go_wp2
  go_ret
  exact ⟨ret_bool (by simp), rfl⟩
theorem compare_any (a b : Int) (w : World) : Calls Tryz.prog 66 #[.int .i64 a, .int .i64 b] w fun e w' => e = .returned (.int .i64 (cmpI a b)) ∧ w = w' := by
  have R : cmpI a b = if a < b then -1 else if b < a then 1 else 0 := rfl
  generalize cmpI a b = r at R ⊢
  by_cases h1 : a < b
  · have H := Lib.hid (show r = -1 by rw [R, if_pos h1]); clear R
    go_enter Tryz.func66, Tryz.ntmps66
    go_wp2_with (go_at_call 100; refine (isNaN_any _ _).mono ?_; rintro e w' ⟨rfl, rfl⟩)
    go_ret
    exact ⟨ret_int H.out.symm, rfl⟩
  by_cases h2 : b < a
  · have H := Lib.hid (show r = 1 by rw [R, if_neg h1, if_pos h2]); clear R
    go_enter Tryz.func66, Tryz.ntmps66
    go_wp2_with (go_at_call 100; refine (isNaN_any _ _).mono ?_; rintro e w' ⟨rfl, rfl⟩)
    go_ret
    exact ⟨ret_int H.out.symm, rfl⟩
  · have H := Lib.hid (show r = 0 by rw [R, if_neg h1, if_neg h2]); clear R
    go_enter Tryz.func66, Tryz.ntmps66
    go_wp2_with (go_at_call 100; refine (isNaN_any _ _).mono ?_; rintro e w' ⟨rfl, rfl⟩)
    go_ret
    exact ⟨ret_int H.out.symm, rfl⟩
def or2 (a b : Int) : Int := if a = 0 then b else a
/-- cmp.Or of two numbers -/
theorem or_two (a b : Int) (g c : Nat) (w : World) (h0 : w.cell? ⟨g, 0, none⟩ = some (.int .i64 a)) (h1 : w.cell? ⟨g, 1, none⟩ = some (.int .i64 b)) :
    Calls Tryz.prog 65 #[.slice (some ⟨g, 0, none⟩) 2 c] w fun e w' => e = .returned (.int .i64 (or2 a b)) ∧ w = w' := by
  have hr : or2 a b = if a = 0 then b else a := rfl
  generalize or2 a b = r at hr ⊢
  by_cases ha : a = 0
  · rw [if_pos ha] at hr
    subst hr
    subst ha
    by_cases hb : r = 0
    · subst hb
      go_enter Tryz.func65, Tryz.ntmps65
      go_wp2
      refine wp_loop_rounds 3 ?_
      rw [rounds_succ]
      go_wp2
      rw [rounds_succ]
      go_wp2
      rw [rounds_succ]
      go_wp2
      go_ret
      exact ⟨rfl, rfl⟩
    · have hb' : (r != 0) = true := by simpa using hb
      go_enter Tryz.func65, Tryz.ntmps65
      go_wp2
      refine wp_loop_rounds 2 ?_
      rw [rounds_succ]
      go_wp2
      rw [rounds_succ]
      go_wp2
      go_ret
      exact ⟨rfl, rfl⟩
  · rw [if_neg ha] at hr
    subst hr
    have ha' : (r != 0) = true := by simpa using ha
    go_enter Tryz.func65, Tryz.ntmps65
    go_wp2
    refine wp_loop_rounds 1 ?_
    simp only [rounds_succ]
    go_wp2
    go_ret
    exact ⟨rfl, rfl⟩

def befI (x y : Err) : Int := or2 (cmpI x.day y.day) (cmpI x.number y.number)
set_option maxHeartbeats 1000000 in
theorem before_any (x y : Err) (w : World) : Calls Tryz.prog 46 #[x.val, y.val] w fun e w' => e = .returned (.int .i64 (befI x y)) ∧ ∃ q os, w' = Go.Sort.grow (w.drewN q) os := by
  have R : Hid (befI x y = or2 (cmpI x.day y.day) (cmpI x.number y.number)) := Lib.hid rfl
  obtain ⟨x0, x1, x2, x3, x4, x5⟩ := x
  obtain ⟨y0, y1, y2, y3, y4, y5⟩ := y
  dsimp only [Err.val] at R ⊢
  generalize befI _ _ = r at R ⊢
  go_enter Tryz.func46, Tryz.ntmps46
  go_wp2
  go_region_held3 (fun w' => w'.cell? ⟨w.heap.size, 1, none⟩ = some (.int .i64 x1) ∧ w'.cell? ⟨w.heap.size + 1, 1, none⟩ = some (.int .i64 y1) ∧ w'.cell? ⟨w.heap.size, 0, none⟩ = some (.int .i64 x0) ∧ w'.cell? ⟨w.heap.size + 1, 0, none⟩ = some (.int .i64 y0)) (go_keep)
    (first | (go_at_call 66; refine (compare_any _ _ _).mono ?_; rintro e w' ⟨rfl, rfl⟩) | (go_at_call 65; refine (or_two (cmpI x1 y1) (cmpI x0 y0) _ _ _ (by simp [go_sem]) (by simp [go_sem])).mono ?_; rintro e w' ⟨rfl, rfl⟩))
  go_wp2
  go_ret
  exact ⟨ret_int R.out.symm, 1, #[_, _, _], rfl⟩
end Go.Proofs.YtjkmdpejcgepkaaGreatDoor