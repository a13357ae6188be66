/- slices.IndexFunc, slices.ContainsFunc and all, at bytes, paragraphs and errata, with any predicate. -/
import Derived.Test.YtjkmdpejcgepkaaGreatDoorB0
import Derived.Deep.RegionHeld3
import Derived.Sort.Grow
namespace Go.Proofs.YtjkmdpejcgepkaaGreatDoor
open Go.RowKit

set_option maxHeartbeats 400000 in
theorem index_byte (xs : List UInt8) (v : Value) (g : Nat) (lb : Array Value) (C : UInt8 → Prop) (p : UInt8 → Bool) (w : World) (hv : Rd encB 1 w v xs) (hC : ∀ x ∈ xs, C x)
    (eg : ∀ args w, (callFunc g args).run Tryz.prog w = .ok (.enter g args) w)
    (hp : Pred Tryz.prog g lb (fun x => .int .u8 (x.toNat : Int)) C p w) :
    Calls Tryz.prog 136 #[v, .func (.func g) #[] lb] w fun e w' => e = .returned (.int .i64 (idxI p xs)) ∧ Below w.heap.size w w' := by
  obtain ⟨A, c, rfl, hc, hm, hr⟩ := hv
  go_enter Tryz.func136, Tryz.ntmps136
  go_wp2
  go_loopg [5, 8] xs.length (fun gg _ s8 wr => ∃ kk : Nat, kk ≤ xs.length ∧ xs.length - kk ≤ gg ∧ s8 = .int .i64 kk ∧ Aside (Below w.heap.size w wr) ∧ Aside (∀ j (h : j < xs.length), j < kk → p xs[j] = false))
  case atStart => exact ⟨0, Nat.zero_le _, by omega, rfl, Below.refl _ w, fun j _ hj => absurd hj (Nat.not_lt_zero _)⟩
  case round =>
    obtain ⟨kk, hkk, hg, rfl, BW, A⟩ := hrel
    by_cases hlt : kk < xs.length
    · obtain ⟨b, off, rfl, hb, hr1⟩ := hr (by omega)
      clear hr
      have hcall := hp wr xs[kk] (hC _ (List.getElem_mem hlt)) BW.out
      clear hC
      have hc' := (hr1.below hb BW.out) kk hlt
      clear hr1
      generalize hy : xs[kk] = y at hcall hc'
      have B : Aside (xs[kk] = y) := hy
      clear hy hp
      have c0 := hc' 0 _ rfl
      clear hc'
      simp only [Nat.add_zero, Nat.mul_one] at c0
      cases hq : p y with
      | true =>
        rw [hq] at hcall
        go_wp2_with (go_at_fn g; refine hcall.mono ?_; rintro e w' ⟨rfl, hb'⟩)
        go_ret
        exact ⟨ret_int (idxI_hit hlt (by rw [B.out]; exact hq) A.out).symm, BW.out.go hb'⟩
      | false =>
        rw [hq] at hcall
        go_wp2_with (go_at_fn g; refine hcall.mono ?_; rintro e w' ⟨rfl, hb'⟩)
        go_roundg (xs.length - (kk + 1))
        case measure => omega
        case rel =>
          refine ⟨kk + 1, by omega, by omega, by go_num, BW.out.go hb', (show Aside _ from fun j h hj => ?_)⟩
          by_cases e : j = kk
          · subst e
            rw [B.out]; exact hq
          · exact A.out j h (by omega)
    · have : kk = xs.length := by omega
      subst this
      clear hr hp hC
      go_wp2
      go_ret
      exact ⟨ret_int (idxI_miss A.out).symm, BW.out⟩

theorem contains_byte (xs : List UInt8) (v : Value) (g : Nat) (lb : Array Value) (C : UInt8 → Prop) (p : UInt8 → Bool) (w : World) (hv : Rd encB 1 w v xs) (hC : ∀ x ∈ xs, C x)
    (eg : ∀ args w, (callFunc g args).run Tryz.prog w = .ok (.enter g args) w)
    (hp : Pred Tryz.prog g lb (fun x => .int .u8 (x.toNat : Int)) C p w) :
    Calls Tryz.prog 121 #[v, .func (.func g) #[] lb] w fun e w' => e = .returned (.bool (xs.any p)) ∧ Below w.heap.size w w' := by
  have h := index_byte xs v g lb C p w hv hC eg hp
  clear hC
  have hI := idxI_lt p xs
  have hA := idxI_any p xs
  obtain ⟨A, c, rfl, hc, hm, hr⟩ := hv
  clear hr hp
  generalize idxI p xs = r at h hI hA
  have H := Lib.hid hA; clear hA
  go_enter Tryz.func121, Tryz.ntmps121
  go_wp2_with (go_at_call 136; refine h.mono ?_; rintro e w' ⟨rfl, hb⟩)
  go_ret
  exact ⟨ret_bool H.out, hb⟩

theorem all1_byte (g : Nat) (lb : Array Value) (C : UInt8 → Prop) (p : UInt8 → Bool) (w : World) (b : Nat) (hb : b < w.heap.size) (hc : w.cell? ⟨b, 0, none⟩ = some (.func (.func g) #[] lb))
    (eg : ∀ args w, (callFunc g args).run Tryz.prog w = .ok (.enter g args) w)
    (hp : Pred Tryz.prog g lb (fun x => .int .u8 (x.toNat : Int)) C p w) :
    Pred Tryz.prog 122 #[.pointer (some ⟨b, 0, none⟩)] (fun x => .int .u8 (x.toNat : Int)) C (fun x => !p x) w := by
  intro W x hx hW
  have hcW := (hW.cell (p := ⟨b, 0, none⟩) hb).trans hc
  have hcall := hp W x hx hW
  have hsz := hW.size
  have hbW : b < W.heap.size := by omega
  clear hp hc hW hx
  dsimp only
  generalize p x = q at hcall ⊢
  go_enter Tryz.func122, Tryz.ntmps122
  go_wp2_with (go_at_fn g; refine hcall.mono ?_; rintro e w' ⟨rfl, hb'⟩)
  go_ret
  exact ⟨rfl, hb'⟩

theorem all_byte (xs : List UInt8) (v : Value) (g : Nat) (lb : Array Value) (C : UInt8 → Prop) (p : UInt8 → Bool) (w : World) (hv : Rd encB 1 w v xs) (hC : ∀ x ∈ xs, C x)
    (eg : ∀ args w, (callFunc g args).run Tryz.prog w = .ok (.enter g args) w)
    (hp : Pred Tryz.prog g lb (fun x => .int .u8 (x.toNat : Int)) C p w) :
    Calls Tryz.prog 103 #[v, .func (.func g) #[] lb] w fun e w' => e = .returned (.bool (xs.all p)) ∧ Below w.heap.size w w' := by
  have hB : Below w.heap.size w (w.alloc (.cells #[.func (.func g) #[] lb] 189)) := (Below.refl _ _).alloc (Nat.le_refl _) _
  have h := contains_byte xs v 122 #[.pointer (some ⟨w.heap.size, 0, none⟩)] C (fun x => !p x) (w.alloc (.cells #[.func (.func g) #[] lb] 189)) (hv.below hB) hC (enters_of Tryz.func122 (by kernel_rfl) rfl) (all1_byte g lb C p _ _ (by simp) (by simp [go_sem]) eg (hp.later hB))
  have hA : (!(xs.any fun x => !p x)) = xs.all p := (List.all_eq_not_any_not ..).symm
  have H := Lib.hid hA; clear hA
  obtain ⟨A, c, rfl, hc, hm, hr⟩ := hv
  clear hr hp hC
  generalize (xs.any fun x => !p x) = r at h H
  go_enter Tryz.func103, Tryz.ntmps103
  go_wp2_with (go_at_call 121; refine h.mono ?_; rintro e w' ⟨rfl, hb⟩)
  go_ret
  exact ⟨ret_bool H.out, hB.go hb⟩

set_option maxHeartbeats 400000 in
theorem index_para (xs : List Para) (v : Value) (g : Nat) (lb : Array Value) (C : Para → Prop) (p : Para → Bool) (w : World) (hv : Rd Para.enc 2 w v xs) (hC : ∀ x ∈ xs, C x)
    (eg : ∀ args w, (callFunc g args).run Tryz.prog w = .ok (.enter g args) w)
    (hp : Pred Tryz.prog g lb (fun x => x.val) C p w) :
    Calls Tryz.prog 120 #[v, .func (.func g) #[] lb] w fun e w' => e = .returned (.int .i64 (idxI p xs)) ∧ Below w.heap.size w w' := by
  obtain ⟨A, c, rfl, hc, hm, hr⟩ := hv
  go_enter Tryz.func120, Tryz.ntmps120
  go_wp2
  go_loopg [5, 8] xs.length (fun gg _ s8 wr => ∃ kk : Nat, kk ≤ xs.length ∧ xs.length - kk ≤ gg ∧ s8 = .int .i64 kk ∧ Aside (Below w.heap.size w wr) ∧ Aside (∀ j (h : j < xs.length), j < kk → p xs[j] = false))
  case atStart => exact ⟨0, Nat.zero_le _, by omega, rfl, Below.refl _ w, fun j _ hj => absurd hj (Nat.not_lt_zero _)⟩
  case round =>
    obtain ⟨kk, hkk, hg, rfl, BW, A⟩ := hrel
    by_cases hlt : kk < xs.length
    · obtain ⟨b, off, rfl, hb, hr1⟩ := hr (by omega)
      clear hr
      have hcall := hp wr xs[kk] (hC _ (List.getElem_mem hlt)) BW.out
      clear hC
      have hc' := (hr1.below hb BW.out) kk hlt
      clear hr1
      generalize hy : xs[kk] = y at hcall hc'
      have B : Aside (xs[kk] = y) := hy
      clear hy hp
      obtain ⟨y0, y1⟩ := y
      have c0 := hc' 0 _ rfl; have c1 := hc' 1 _ rfl
      clear hc'
      dsimp only [Para.val] at hcall
      simp only [Nat.add_zero] at c0
      cases hq : p ⟨y0, y1⟩ with
      | true =>
        rw [hq] at hcall
        go_wp2_with (go_at_fn g; refine hcall.mono ?_; rintro e w' ⟨rfl, hb'⟩)
        go_ret
        exact ⟨ret_int (idxI_hit hlt (by rw [B.out]; exact hq) A.out).symm, BW.out.go hb'⟩
      | false =>
        rw [hq] at hcall
        go_wp2_with (go_at_fn g; refine hcall.mono ?_; rintro e w' ⟨rfl, hb'⟩)
        go_roundg (xs.length - (kk + 1))
        case measure => omega
        case rel =>
          refine ⟨kk + 1, by omega, by omega, by go_num, BW.out.go hb', (show Aside _ from fun j h hj => ?_)⟩
          by_cases e : j = kk
          · subst e
            rw [B.out]; exact hq
          · exact A.out j h (by omega)
    · have : kk = xs.length := by omega
      subst this
      clear hr hp hC
      go_wp2
      go_ret
      exact ⟨ret_int (idxI_miss A.out).symm, BW.out⟩

theorem contains_para (xs : List Para) (v : Value) (g : Nat) (lb : Array Value) (C : Para → Prop) (p : Para → Bool) (w : World) (hv : Rd Para.enc 2 w v xs) (hC : ∀ x ∈ xs, C x)
    (eg : ∀ args w, (callFunc g args).run Tryz.prog w = .ok (.enter g args) w)
    (hp : Pred Tryz.prog g lb (fun x => x.val) C p w) :
    Calls Tryz.prog 101 #[v, .func (.func g) #[] lb] w fun e w' => e = .returned (.bool (xs.any p)) ∧ Below w.heap.size w w' := by
  have h := index_para xs v g lb C p w hv hC eg hp
  clear hC
  have hI := idxI_lt p xs
  have hA := idxI_any p xs
  obtain ⟨A, c, rfl, hc, hm, hr⟩ := hv
  clear hr hp
  generalize idxI p xs = r at h hI hA
  have H := Lib.hid hA; clear hA
  go_enter Tryz.func101, Tryz.ntmps101
  go_wp2_with (go_at_call 120; refine h.mono ?_; rintro e w' ⟨rfl, hb⟩)
  go_ret
  exact ⟨ret_bool H.out, hb⟩

theorem all1_para (g : Nat) (lb : Array Value) (C : Para → Prop) (p : Para → Bool) (w : World) (b : Nat) (hb : b < w.heap.size) (hc : w.cell? ⟨b, 0, none⟩ = some (.func (.func g) #[] lb))
    (eg : ∀ args w, (callFunc g args).run Tryz.prog w = .ok (.enter g args) w)
    (hp : Pred Tryz.prog g lb (fun x => x.val) C p w) :
    Pred Tryz.prog 102 #[.pointer (some ⟨b, 0, none⟩)] (fun x => x.val) C (fun x => !p x) w := by
  intro W x hx hW
  have hcW := (hW.cell (p := ⟨b, 0, none⟩) hb).trans hc
  have hcall := hp (W.alloc (.cells x.val.cells 67)) x hx (hW.alloc hW.size _)
  have hsz := hW.size
  have hbW : b < W.heap.size := by omega
  clear hp hc hW hx
  dsimp only
  generalize p x = q at hcall ⊢
  obtain ⟨y0, y1⟩ := x
  dsimp only [Para.val, Value.cells] at hcall ⊢
  go_enter Tryz.func102, Tryz.ntmps102
  go_wp2_with (go_at_fn g; refine hcall.mono ?_; rintro e w' ⟨rfl, hb'⟩)
  go_ret
  exact ⟨rfl, ((Below.refl _ _).alloc (Nat.le_refl _) _).go hb'⟩

theorem all_para (xs : List Para) (v : Value) (g : Nat) (lb : Array Value) (C : Para → Prop) (p : Para → Bool) (w : World) (hv : Rd Para.enc 2 w v xs) (hC : ∀ x ∈ xs, C x)
    (eg : ∀ args w, (callFunc g args).run Tryz.prog w = .ok (.enter g args) w)
    (hp : Pred Tryz.prog g lb (fun x => x.val) C p w) :
    Calls Tryz.prog 67 #[v, .func (.func g) #[] lb] w fun e w' => e = .returned (.bool (xs.all p)) ∧ Below w.heap.size w w' := by
  have hB : Below w.heap.size w (w.alloc (.cells #[.func (.func g) #[] lb] 165)) := (Below.refl _ _).alloc (Nat.le_refl _) _
  have h := contains_para xs v 102 #[.pointer (some ⟨w.heap.size, 0, none⟩)] C (fun x => !p x) (w.alloc (.cells #[.func (.func g) #[] lb] 165)) (hv.below hB) hC (enters_of Tryz.func102 (by kernel_rfl) rfl) (all1_para g lb C p _ _ (by simp) (by simp [go_sem]) eg (hp.later hB))
  have hA : (!(xs.any fun x => !p x)) = xs.all p := (List.all_eq_not_any_not ..).symm
  have H := Lib.hid hA; clear hA
  obtain ⟨A, c, rfl, hc, hm, hr⟩ := hv
  clear hr hp hC
  generalize (xs.any fun x => !p x) = r at h H
  go_enter Tryz.func67, Tryz.ntmps67
  go_wp2_with (go_at_call 101; refine h.mono ?_; rintro e w' ⟨rfl, hb⟩)
  go_ret
  exact ⟨ret_bool H.out, hB.go hb⟩

set_option maxHeartbeats 400000 in
theorem index_err (xs : List Err) (v : Value) (g : Nat) (lb : Array Value) (C : Err → Prop) (p : Err → Bool) (w : World) (hv : Rd Err.enc 6 w v xs) (hC : ∀ x ∈ xs, C x)
    (eg : ∀ args w, (callFunc g args).run Tryz.prog w = .ok (.enter g args) w)
    (hp : Pred Tryz.prog g lb (fun x => x.val) C p w) :
    Calls Tryz.prog 105 #[v, .func (.func g) #[] lb] w fun e w' => e = .returned (.int .i64 (idxI p xs)) ∧ Below w.heap.size w w' := by
  obtain ⟨A, c, rfl, hc, hm, hr⟩ := hv
  go_enter Tryz.func105, Tryz.ntmps105
  go_wp2
  go_loopg [5, 8] xs.length (fun gg _ s8 wr => ∃ kk : Nat, kk ≤ xs.length ∧ xs.length - kk ≤ gg ∧ s8 = .int .i64 kk ∧ Aside (Below w.heap.size w wr) ∧ Aside (∀ j (h : j < xs.length), j < kk → p xs[j] = false))
  case atStart => exact ⟨0, Nat.zero_le _, by omega, rfl, Below.refl _ w, fun j _ hj => absurd hj (Nat.not_lt_zero _)⟩
  case round =>
    obtain ⟨kk, hkk, hg, rfl, BW, A⟩ := hrel
    by_cases hlt : kk < xs.length
    · obtain ⟨b, off, rfl, hb, hr1⟩ := hr (by omega)
      clear hr
      have hcall := hp wr xs[kk] (hC _ (List.getElem_mem hlt)) BW.out
      clear hC
      have hc' := (hr1.below hb BW.out) kk hlt
      clear hr1
      generalize hy : xs[kk] = y at hcall hc'
      have B : Aside (xs[kk] = y) := hy
      clear hy hp
      obtain ⟨y0, y1, y2, y3, y4, y5⟩ := y
      have c0 := hc' 0 _ rfl; have c1 := hc' 1 _ rfl; have c2 := hc' 2 _ rfl; have c3 := hc' 3 _ rfl; have c4 := hc' 4 _ rfl; have c5 := hc' 5 _ rfl
      clear hc'
      dsimp only [Err.val] at hcall
      simp only [Nat.add_zero] at c0
      cases hq : p ⟨y0, y1, y2, y3, y4, y5⟩ with
      | true =>
        rw [hq] at hcall
        go_wp2_with (go_at_fn g; refine hcall.mono ?_; rintro e w' ⟨rfl, hb'⟩)
        go_ret
        exact ⟨ret_int (idxI_hit hlt (by rw [B.out]; exact hq) A.out).symm, BW.out.go hb'⟩
      | false =>
        rw [hq] at hcall
        go_wp2_with (go_at_fn g; refine hcall.mono ?_; rintro e w' ⟨rfl, hb'⟩)
        go_roundg (xs.length - (kk + 1))
        case measure => omega
        case rel =>
          refine ⟨kk + 1, by omega, by omega, by go_num, BW.out.go hb', (show Aside _ from fun j h hj => ?_)⟩
          by_cases e : j = kk
          · subst e
            rw [B.out]; exact hq
          · exact A.out j h (by omega)
    · have : kk = xs.length := by omega
      subst this
      clear hr hp hC
      go_wp2
      go_ret
      exact ⟨ret_int (idxI_miss A.out).symm, BW.out⟩

theorem contains_err (xs : List Err) (v : Value) (g : Nat) (lb : Array Value) (C : Err → Prop) (p : Err → Bool) (w : World) (hv : Rd Err.enc 6 w v xs) (hC : ∀ x ∈ xs, C x)
    (eg : ∀ args w, (callFunc g args).run Tryz.prog w = .ok (.enter g args) w)
    (hp : Pred Tryz.prog g lb (fun x => x.val) C p w) :
    Calls Tryz.prog 75 #[v, .func (.func g) #[] lb] w fun e w' => e = .returned (.bool (xs.any p)) ∧ Below w.heap.size w w' := by
  have h := index_err xs v g lb C p w hv hC eg hp
  clear hC
  have hI := idxI_lt p xs
  have hA := idxI_any p xs
  obtain ⟨A, c, rfl, hc, hm, hr⟩ := hv
  clear hr hp
  generalize idxI p xs = r at h hI hA
  have H := Lib.hid hA; clear hA
  go_enter Tryz.func75, Tryz.ntmps75
  go_wp2_with (go_at_call 105; refine h.mono ?_; rintro e w' ⟨rfl, hb⟩)
  go_ret
  exact ⟨ret_bool H.out, hb⟩

theorem all1_err (g : Nat) (lb : Array Value) (C : Err → Prop) (p : Err → Bool) (w : World) (b : Nat) (hb : b < w.heap.size) (hc : w.cell? ⟨b, 0, none⟩ = some (.func (.func g) #[] lb))
    (eg : ∀ args w, (callFunc g args).run Tryz.prog w = .ok (.enter g args) w)
    (hp : Pred Tryz.prog g lb (fun x => x.val) C p w) :
    Pred Tryz.prog 76 #[.pointer (some ⟨b, 0, none⟩)] (fun x => x.val) C (fun x => !p x) w := by
  intro W x hx hW
  have hcW := (hW.cell (p := ⟨b, 0, none⟩) hb).trans hc
  have hcall := hp (W.alloc (.cells x.val.cells 77)) x hx (hW.alloc hW.size _)
  have hsz := hW.size
  have hbW : b < W.heap.size := by omega
  clear hp hc hW hx
  dsimp only
  generalize p x = q at hcall ⊢
  obtain ⟨y0, y1, y2, y3, y4, y5⟩ := x
  dsimp only [Err.val, Value.cells] at hcall ⊢
  go_enter Tryz.func76, Tryz.ntmps76
  go_wp2_with (go_at_fn g; refine hcall.mono ?_; rintro e w' ⟨rfl, hb'⟩)
  go_ret
  exact ⟨rfl, ((Below.refl _ _).alloc (Nat.le_refl _) _).go hb'⟩

theorem all_err (xs : List Err) (v : Value) (g : Nat) (lb : Array Value) (C : Err → Prop) (p : Err → Bool) (w : World) (hv : Rd Err.enc 6 w v xs) (hC : ∀ x ∈ xs, C x)
    (eg : ∀ args w, (callFunc g args).run Tryz.prog w = .ok (.enter g args) w)
    (hp : Pred Tryz.prog g lb (fun x => x.val) C p w) :
    Calls Tryz.prog 52 #[v, .func (.func g) #[] lb] w fun e w' => e = .returned (.bool (xs.all p)) ∧ Below w.heap.size w w' := by
  have hB : Below w.heap.size w (w.alloc (.cells #[.func (.func g) #[] lb] 129)) := (Below.refl _ _).alloc (Nat.le_refl _) _
  have h := contains_err xs v 76 #[.pointer (some ⟨w.heap.size, 0, none⟩)] C (fun x => !p x) (w.alloc (.cells #[.func (.func g) #[] lb] 129)) (hv.below hB) hC (enters_of Tryz.func76 (by kernel_rfl) rfl) (all1_err g lb C p _ _ (by simp) (by simp [go_sem]) eg (hp.later hB))
  have hA : (!(xs.any fun x => !p x)) = xs.all p := (List.all_eq_not_any_not ..).symm
  have H := Lib.hid hA; clear hA
  obtain ⟨A, c, rfl, hc, hm, hr⟩ := hv
  clear hr hp hC
  generalize (xs.any fun x => !p x) = r at h H
  go_enter Tryz.func52, Tryz.ntmps52
  go_wp2_with (go_at_call 75; refine h.mono ?_; rintro e w' ⟨rfl, hb⟩)
  go_ret
  exact ⟨ret_bool H.out, hB.go hb⟩
end Go.Proofs.YtjkmdpejcgepkaaGreatDoor
/- The small tests of package volume: within, day, anchor, text, an erratum by itself. -/
namespace Go.Proofs.YtjkmdpejcgepkaaGreatDoor
open Go.RowKit
def withinB (n lo hi : Int) : Bool := decide (lo ≤ n ∧ n ≤ hi)
theorem within_any (n lo hi : Int) (w : World) :
    Calls Tryz.prog 40 #[.int .i64 n, .int .i64 lo, .int .i64 hi] w fun e w' => e = .returned (.bool (withinB n lo hi)) ∧ w = w' := by
  unfold withinB
  by_cases h1 : lo ≤ n
  · go_enter Tryz.func40, Tryz.ntmps40
    go_wp2
    go_ret
    simp [h1]
  · go_enter Tryz.func40, Tryz.ntmps40
    go_wp2
    go_ret
    simp; omega
def dayB (n : Int) : Bool := withinB n 0 99999
def anchorB (n : Int) : Bool := withinB n 1 999
theorem day_any (n : Int) (w : World) :
    Calls Tryz.prog 34 #[.int .i64 n] w fun e w' => e = .returned (.bool (dayB n)) ∧ w = w' := by
  go_enter Tryz.func34, Tryz.ntmps34
  go_wp2_with (go_at_call 40; refine (within_any _ _ _ _).mono ?_; rintro e w' ⟨rfl, rfl⟩)
  go_ret
  exact ⟨rfl, rfl⟩
theorem anchor_any (n : Int) (w : World) :
    Calls Tryz.prog 69 #[.int .i64 n] w fun e w' => e = .returned (.bool (anchorB n)) ∧ w = w' := by
  go_enter Tryz.func69, Tryz.ntmps69
  go_wp2_with (go_at_call 40; refine (within_any _ _ _ _).mono ?_; rintro e w' ⟨rfl, rfl⟩)
  go_ret
  exact ⟨rfl, rfl⟩
def plainB (c : UInt8) : Bool := decide (32 ≤ (c.toNat : Int) ∧ (c.toNat : Int) ≤ 126)
theorem text1_pred (w : World) : Pred Tryz.prog 104 #[] (fun x : UInt8 => .int .u8 (x.toNat : Int)) (fun _ => True) plainB w := by
  intro W x _ _
  have h0 : (0 : Int) ≤ (x.toNat : Int) := by omega
  have h1 : (x.toNat : Int) ≤ 255 := by have := x.toNat_lt; omega
  show Calls _ _ #[.int .u8 (x.toNat : Int)] _ _
  unfold plainB
  generalize (x.toNat : Int) = n at h0 h1 ⊢
  by_cases h : 32 ≤ n
  · go_enter Tryz.func104, Tryz.ntmps104
    go_wp2
    go_ret
    exact ⟨by simp [h], Below.refl _ _⟩
  · go_enter Tryz.func104, Tryz.ntmps104
    go_wp2
    go_ret
    exact ⟨ret_bool (by simp; omega), Below.refl _ _⟩
def textB (s : ByteArray) : Bool := withinB s.size 1 200 && s.data.toList.all plainB
theorem bytes_rd (W : World) (s : ByteArray) (c : Nat) (hc : s.size ≤ c) (hs : s.size ≤ 9223372036854775807) : Rd encB 1 (Lib.bytesWorld W 5 s) (.slice (some ⟨W.heap.size, 0, none⟩) s.size c) s.data.toList := by
  have hl : s.data.toList.length = s.size := by rw [Array.length_toList]; rfl
  refine ⟨some ⟨W.heap.size, 0, none⟩, c, by rw [hl], by omega, by omega, fun _ => ⟨_, _, rfl, by rw [Lib.bytesWorld_size]; omega, fun j hj i u hu => ?_⟩⟩
  obtain rfl : i = 0 := by
    have := (List.getElem?_eq_some_iff.1 hu).1
    simpa [encB] using this
  have e := Lib.bytesWorld_cell W 5 s j (by omega)
  simp only [encB, List.getElem?_cons_zero, Option.some.injEq] at hu
  subst hu
  simpa [List.getD_eq_getElem?_getD, Array.getElem?_eq_getElem (show j < s.data.size from by simpa using hj)] using e
theorem text_any (s : ByteArray) (w : World) (hs : s.size ≤ 9223372036854775807) : Calls Tryz.prog 70 #[.string s] w fun e w' => e = .returned (.bool (textB s)) ∧ Below w.heap.size w w' := by
  have kb := fun W => Lib.run_convert_string_bytes (P := Tryz.prog) W 9 141 5 s Tryz.underlying9 Tryz.underlying141 Tryz.underlying5
  have hB : Below w.heap.size w (Lib.bytesWorld w 5 s) := ⟨rfl, rfl, rfl, by rw [Lib.bytesWorld_size]; omega, fun i hi => Lib.bytesWorld_at_old w _ s i (by omega)⟩
  have hcap := grownCap_ge w s.size 0 5
  have hall := all_byte s.data.toList _ 104 #[] (fun _ => True) plainB _ (bytes_rd w s _ hcap hs) (fun _ _ => trivial) (enters_of Tryz.func104 (by kernel_rfl) rfl) (text1_pred _)
  unfold textB
  generalize s.data.toList.all plainB = q at hall ⊢
  cases h : withinB s.size 1 200
  · go_enter Tryz.func70, Tryz.ntmps70
    go_wp2_with (first | (go_at_call 40; refine (within_any _ _ _ _).mono ?_; rintro e w' ⟨rfl, rfl⟩) | (go_at_call 103; refine hall.mono ?_; rintro e w' ⟨rfl, hb⟩))
    go_ret
    exact ⟨by simp, Below.refl _ _⟩
  · go_enter Tryz.func70, Tryz.ntmps70
    go_wp2_with (first | (go_at_call 40; refine (within_any _ _ _ _).mono ?_; rintro e w' ⟨rfl, rfl⟩) | (go_at_call 103; refine hall.mono ?_; rintro e w' ⟨rfl, hb⟩))
    go_ret
    exact ⟨by simp, hB.go hb⟩

def Para.ok (x : Para) : Bool := anchorB x.anchor && textB x.text
def Para.fits (x : Para) : Prop := x.text.size ≤ 9223372036854775807
theorem valid1_pred (w : World) : Pred Tryz.prog 68 #[] Para.val Para.fits Para.ok w := by
  intro W x hs _
  unfold Para.fits at hs
  obtain ⟨a, s⟩ := x
  dsimp only at hs
  show Calls _ _ #[.agg #[.int .i64 a, .string s]] _ fun e w' => e = .returned (.bool (anchorB a && textB s)) ∧ _
  have hB : Below W.heap.size W (W.alloc (.cells #[.int .i64 a, .string s] 67)) := (Below.refl _ _).alloc (Nat.le_refl _) _
  cases h : anchorB a
  · go_enter Tryz.func68, Tryz.ntmps68
    go_wp2_with (first | (go_at_call 69; refine (anchor_any _ _).mono ?_; rintro e w' ⟨rfl, rfl⟩) | (go_at_call 70; refine (text_any _ _ hs).mono ?_; rintro e w' ⟨rfl, hb⟩))
    go_ret
    exact ⟨by simp, hB⟩
  · go_enter Tryz.func68, Tryz.ntmps68
    go_wp2_with (first | (go_at_call 69; refine (anchor_any _ _).mono ?_; rintro e w' ⟨rfl, rfl⟩) | (go_at_call 70; refine (text_any _ _ hs).mono ?_; rintro e w' ⟨rfl, hb⟩))
    go_ret
    exact ⟨by simp, hB.go hb⟩
end Go.Proofs.YtjkmdpejcgepkaaGreatDoor
/- An erratum by itself; the order of errata. -/
namespace Go.Proofs.YtjkmdpejcgepkaaGreatDoor
open Go.RowKit
def Err.ok (x : Err) : Bool :=
  (withinB x.number 1 999 && dayB x.day && anchorB x.anchor) &&
  (if x.kind = 0 then textB x.text && x.new == 0 else if x.kind = 1 then x.text.toList.isEmpty && x.new == 0 else if x.kind = 2 then textB x.text && anchorB x.new else false)
def Err.fits (x : Err) : Prop := x.text.size ≤ 9223372036854775807
theorem errValid_pred (w : World) : Pred Tryz.prog 53 #[] Err.val Err.fits Err.ok w := by
  intro W x hs _
  obtain ⟨n, d, k, a, s, m⟩ := x
  have hs' : s.size ≤ 9223372036854775807 := hs
  clear hs
  show Calls _ _ #[.agg #[.int .i64 n, .int .i64 d, .int .u8 k, .int .i64 a, .string s, .int .i64 m]] _ _
  have hB : Below W.heap.size W (W.alloc (.cells #[.int .i64 n, .int .i64 d, .int .u8 k, .int .i64 a, .string s, .int .i64 m] 77)) := (Below.refl _ _).alloc (Nat.le_refl _) _
  have R : (Err.mk n d k a s m).ok = ((withinB n 1 999 && dayB d && anchorB a) && (if k = 0 then textB s && m == 0 else if k = 1 then s.toList.isEmpty && m == 0 else if k = 2 then textB s && anchorB m else false)) := rfl
  generalize (Err.mk n d k a s m).ok = r at R ⊢
  cases h1 : withinB n 1 999
  · have H := Lib.hid (show r = false by rw [R]; simp [h1]); clear R
    go_enter Tryz.func53, Tryz.ntmps53; go_wp2_with (first | (go_at_call 40; refine (within_any _ _ _ _).mono ?_; rintro e w' ⟨rfl, rfl⟩) | (go_at_call 34; refine (day_any _ _).mono ?_; rintro e w' ⟨rfl, rfl⟩) | (go_at_call 69; refine (anchor_any _ _).mono ?_; rintro e w' ⟨rfl, rfl⟩) | (go_at_call 70; refine (text_any _ _ hs').mono ?_; rintro e w' ⟨rfl, hb⟩; obtain ⟨hc1, hf1⟩ := bcell hb)); go_ret
    exact ⟨ret_bool H.out.symm, hB⟩
  cases h2 : dayB d
  · have H := Lib.hid (show r = false by rw [R]; simp [h2]); clear R
    go_enter Tryz.func53, Tryz.ntmps53; go_wp2_with (first | (go_at_call 40; refine (within_any _ _ _ _).mono ?_; rintro e w' ⟨rfl, rfl⟩) | (go_at_call 34; refine (day_any _ _).mono ?_; rintro e w' ⟨rfl, rfl⟩) | (go_at_call 69; refine (anchor_any _ _).mono ?_; rintro e w' ⟨rfl, rfl⟩) | (go_at_call 70; refine (text_any _ _ hs').mono ?_; rintro e w' ⟨rfl, hb⟩; obtain ⟨hc1, hf1⟩ := bcell hb)); go_ret
    exact ⟨ret_bool H.out.symm, hB⟩
  cases h3 : anchorB a
  · have H := Lib.hid (show r = false by rw [R]; simp [h3]); clear R
    go_enter Tryz.func53, Tryz.ntmps53; go_wp2_with (first | (go_at_call 40; refine (within_any _ _ _ _).mono ?_; rintro e w' ⟨rfl, rfl⟩) | (go_at_call 34; refine (day_any _ _).mono ?_; rintro e w' ⟨rfl, rfl⟩) | (go_at_call 69; refine (anchor_any _ _).mono ?_; rintro e w' ⟨rfl, rfl⟩) | (go_at_call 70; refine (text_any _ _ hs').mono ?_; rintro e w' ⟨rfl, hb⟩; obtain ⟨hc1, hf1⟩ := bcell hb)); go_ret
    exact ⟨ret_bool H.out.symm, hB⟩
  by_cases k0 : k = 0
  · subst k0
    cases h4 : textB s
    all_goals
      have H := Lib.hid (show r = (textB s && m == 0) by rw [R]; simp [h1, h2, h3]); clear R
      go_enter Tryz.func53, Tryz.ntmps53; go_wp2_with (first | (go_at_call 40; refine (within_any _ _ _ _).mono ?_; rintro e w' ⟨rfl, rfl⟩) | (go_at_call 34; refine (day_any _ _).mono ?_; rintro e w' ⟨rfl, rfl⟩) | (go_at_call 69; refine (anchor_any _ _).mono ?_; rintro e w' ⟨rfl, rfl⟩) | (go_at_call 70; refine (text_any _ _ hs').mono ?_; rintro e w' ⟨rfl, hb⟩; obtain ⟨hc1, hf1⟩ := bcell hb)); go_ret
      exact ⟨ret_bool (by rw [H.out, h4]; simp), hB.go hb⟩
  by_cases k1 : k = 1
  · subst k1
    cases h4 : s.toList.isEmpty
    all_goals
      have H := Lib.hid (show r = (s.toList.isEmpty && m == 0) by rw [R]; simp [h1, h2, h3]); clear R
      go_enter Tryz.func53, Tryz.ntmps53; go_wp2_with (first | (go_at_call 40; refine (within_any _ _ _ _).mono ?_; rintro e w' ⟨rfl, rfl⟩) | (go_at_call 34; refine (day_any _ _).mono ?_; rintro e w' ⟨rfl, rfl⟩) | (go_at_call 69; refine (anchor_any _ _).mono ?_; rintro e w' ⟨rfl, rfl⟩) | (go_at_call 70; refine (text_any _ _ hs').mono ?_; rintro e w' ⟨rfl, hb⟩; obtain ⟨hc1, hf1⟩ := bcell hb)); go_ret
      exact ⟨ret_bool (by rw [H.out, h4]; simp), hB⟩
  have e0 : (k == 0) = false := by simpa using k0
  have e1 : (k == 1) = false := by simpa using k1
  by_cases k2 : k = 2
  · subst k2
    cases h4 : textB s
    all_goals
      have H := Lib.hid (show r = (textB s && anchorB m) by rw [R]; simp [h1, h2, h3]); clear R e0 e1
      go_enter Tryz.func53, Tryz.ntmps53; go_wp2_with (first | (go_at_call 40; refine (within_any _ _ _ _).mono ?_; rintro e w' ⟨rfl, rfl⟩) | (go_at_call 34; refine (day_any _ _).mono ?_; rintro e w' ⟨rfl, rfl⟩) | (go_at_call 69; refine (anchor_any _ _).mono ?_; rintro e w' ⟨rfl, rfl⟩) | (go_at_call 70; refine (text_any _ _ hs').mono ?_; rintro e w' ⟨rfl, hb⟩; obtain ⟨hc1, hf1⟩ := bcell hb)); go_ret
      exact ⟨ret_bool (by rw [H.out, h4]; simp), hB.go hb⟩
  have e2 : (k == 2) = false := by simpa using k2
  have H := Lib.hid (show r = false by rw [R]; simp [k0, k1, k2]); clear R
  go_enter Tryz.func53, Tryz.ntmps53; go_wp2_with (first | (go_at_call 40; refine (within_any _ _ _ _).mono ?_; rintro e w' ⟨rfl, rfl⟩) | (go_at_call 34; refine (day_any _ _).mono ?_; rintro e w' ⟨rfl, rfl⟩) | (go_at_call 69; refine (anchor_any _ _).mono ?_; rintro e w' ⟨rfl, rfl⟩) | (go_at_call 70; refine (text_any _ _ hs').mono ?_; rintro e w' ⟨rfl, hb⟩; obtain ⟨hc1, hf1⟩ := bcell hb)); go_ret
  exact ⟨ret_bool H.out.symm, hB⟩
def cmpI (a b : Int) : Int := if a < b then -1 else if b < a then 1 else 0
theorem isNaN_any (a : Int) (w : World) : Calls Tryz.prog 100 #[.int .i64 a] w fun e w' => e = .returned (.bool false) ∧ w = w' := by
  go_enter Tryz.func100, Tryz.ntmps100
  go_wp2
  go_ret
  exact ⟨ret_bool (by simp), rfl⟩
theorem compare_any (a b : Int) (w : World) : Calls Tryz.prog 66 #[.int .i64 a, .int .i64 b] w fun e w' => e = .returned (.int .i64 (cmpI a b)) ∧ w = w' := by
  have R : cmpI a b = if a < b then -1 else if b < a then 1 else 0 := rfl
  generalize cmpI a b = r at R ⊢
  by_cases h1 : a < b
  · have H := Lib.hid (show r = -1 by rw [R, if_pos h1]); clear R
    go_enter Tryz.func66, Tryz.ntmps66
    go_wp2_with (go_at_call 100; refine (isNaN_any _ _).mono ?_; rintro e w' ⟨rfl, rfl⟩)
    go_ret
    exact ⟨ret_int H.out.symm, rfl⟩
  by_cases h2 : b < a
  · have H := Lib.hid (show r = 1 by rw [R, if_neg h1, if_pos h2]); clear R
    go_enter Tryz.func66, Tryz.ntmps66
    go_wp2_with (go_at_call 100; refine (isNaN_any _ _).mono ?_; rintro e w' ⟨rfl, rfl⟩)
    go_ret
    exact ⟨ret_int H.out.symm, rfl⟩
  · have H := Lib.hid (show r = 0 by rw [R, if_neg h1, if_neg h2]); clear R
    go_enter Tryz.func66, Tryz.ntmps66
    go_wp2_with (go_at_call 100; refine (isNaN_any _ _).mono ?_; rintro e w' ⟨rfl, rfl⟩)
    go_ret
    exact ⟨ret_int H.out.symm, rfl⟩
def or2 (a b : Int) : Int := if a = 0 then b else a
/-- cmp.Or of two numbers -/
theorem or_two (a b : Int) (g c : Nat) (w : World) (h0 : w.cell? ⟨g, 0, none⟩ = some (.int .i64 a)) (h1 : w.cell? ⟨g, 1, none⟩ = some (.int .i64 b)) :
    Calls Tryz.prog 65 #[.slice (some ⟨g, 0, none⟩) 2 c] w fun e w' => e = .returned (.int .i64 (or2 a b)) ∧ w = w' := by
  have hr : or2 a b = if a = 0 then b else a := rfl
  generalize or2 a b = r at hr ⊢
  by_cases ha : a = 0
  · rw [if_pos ha] at hr
    subst hr
    subst ha
    by_cases hb : r = 0
    · subst hb
      go_enter Tryz.func65, Tryz.ntmps65
      go_wp2
      refine wp_loop_rounds 3 ?_
      rw [rounds_succ]
      go_wp2
      rw [rounds_succ]
      go_wp2
      rw [rounds_succ]
      go_wp2
      go_ret
      exact ⟨rfl, rfl⟩
    · have hb' : (r != 0) = true := by simpa using hb
      go_enter Tryz.func65, Tryz.ntmps65
      go_wp2
      refine wp_loop_rounds 2 ?_
      rw [rounds_succ]
      go_wp2
      rw [rounds_succ]
      go_wp2
      go_ret
      exact ⟨rfl, rfl⟩
  · rw [if_neg ha] at hr
    subst hr
    have ha' : (r != 0) = true := by simpa using ha
    go_enter Tryz.func65, Tryz.ntmps65
    go_wp2
    refine wp_loop_rounds 1 ?_
    simp only [rounds_succ]
    go_wp2
    go_ret
    exact ⟨rfl, rfl⟩

def befI (x y : Err) : Int := or2 (cmpI x.day y.day) (cmpI x.number y.number)
set_option maxHeartbeats 1000000 in
theorem before_any (x y : Err) (w : World) : Calls Tryz.prog 46 #[x.val, y.val] w fun e w' => e = .returned (.int .i64 (befI x y)) ∧ ∃ q os, w' = Go.Sort.grow (w.drewN q) os := by
  have R : Hid (befI x y = or2 (cmpI x.day y.day) (cmpI x.number y.number)) := Lib.hid rfl
  obtain ⟨x0, x1, x2, x3, x4, x5⟩ := x
  obtain ⟨y0, y1, y2, y3, y4, y5⟩ := y
  dsimp only [Err.val] at R ⊢
  generalize befI _ _ = r at R ⊢
  go_enter Tryz.func46, Tryz.ntmps46
  go_wp2
  go_region_held3 (fun w' => w'.cell? ⟨w.heap.size, 1, none⟩ = some (.int .i64 x1) ∧ w'.cell? ⟨w.heap.size + 1, 1, none⟩ = some (.int .i64 y1) ∧ w'.cell? ⟨w.heap.size, 0, none⟩ = some (.int .i64 x0) ∧ w'.cell? ⟨w.heap.size + 1, 0, none⟩ = some (.int .i64 y0)) (go_keep)
    (first | (go_at_call 66; refine (compare_any _ _ _).mono ?_; rintro e w' ⟨rfl, rfl⟩) | (go_at_call 65; refine (or_two (cmpI x1 y1) (cmpI x0 y0) _ _ _ (by simp [go_sem]) (by simp [go_sem])).mono ?_; rintro e w' ⟨rfl, rfl⟩))
  go_wp2
  go_ret
  exact ⟨ret_int R.out.symm, 1, #[_, _, _], rfl⟩
end Go.Proofs.YtjkmdpejcgepkaaGreatDoor
