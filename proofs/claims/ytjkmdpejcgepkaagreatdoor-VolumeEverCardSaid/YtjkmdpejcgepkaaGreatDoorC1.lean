/- slices.IndexFunc, slices.ContainsFunc and all, at bytes, paragraphs and errata, with any predicate. -/
import Derived.Test.YtjkmdpejcgepkaaGreatDoorB0
namespace Go.Proofs.YtjkmdpejcgepkaaGreatDoor
open Go.RowKit

set_option maxHeartbeats 400000 in
theorem index_byte (xs : List UInt8) (v : Value) (g : Nat) (lb : Array Value) (C : UInt8 → Prop) (p : UInt8 → Bool) (w : World) (hv : Rd encB 1 w v xs) (hC : ∀ x ∈ xs, C x)
    (eg : ∀ args w, (callFunc g args).run Tryz.prog w = .ok (.enter g args) w)
    (hp : Pred Tryz.prog g lb (fun x => .int .u8 (x.toNat : Int)) C p w) :
    Calls Tryz.prog 136 #[v, .func (.func g) #[] lb] w fun e w' => e = .returned (.int .i64 (idxI p xs)) ∧ Below w.heap.size w w' := by
  obtain ⟨A, c, rfl, hc, hm, hr⟩ := hv
  go_enter Tryz.func136, Tryz.ntmps136
  go_wp2
  go_loopg [5, 8] xs.length (fun gg _ s8 wr => ∃ kk : Nat, kk ≤ xs.length ∧ xs.length - kk ≤ gg ∧ s8 = .int .i64 kk ∧ Aside (Below w.heap.size w wr) ∧ Aside (∀ j (h : j < xs.length), j < kk → p xs[j] = false))
  case atStart => exact ⟨0, Nat.zero_le _, by omega, rfl, Below.refl _ w, fun j _ hj => absurd hj (Nat.not_lt_zero _)⟩
  case round =>
    obtain ⟨kk, hkk, hg, rfl, BW, A⟩ := hrel
    by_cases hlt : kk < xs.length
    · obtain ⟨b, off, rfl, hb, hr1⟩ := hr (by omega)
      clear hr
      have hcall := hp wr xs[kk] (hC _ (List.getElem_mem hlt)) BW.out
      clear hC
      have hc' := (hr1.below hb BW.out) kk hlt
      clear hr1
      generalize hy : xs[kk] = y at hcall hc'
      have B : Aside (xs[kk] = y) := hy
      clear hy hp
      have c0 := hc' 0 _ rfl
      clear hc'
      simp only [Nat.add_zero, Nat.mul_one] at c0
      cases hq : p y with
      | true =>
        rw [hq] at hcall
        go_wp2_with (go_at_fn g; refine hcall.mono ?_; rintro e w' ⟨rfl, hb'⟩)
        go_ret
        exact ⟨ret_int (idxI_hit hlt (by rw [B.out]; exact hq) A.out).symm, BW.out.go hb'⟩
      | false =>
        rw [hq] at hcall
        go_wp2_with (go_at_fn g; refine hcall.mono ?_; rintro e w' ⟨rfl, hb'⟩)
        go_roundg (xs.length - (kk + 1))
        case measure => omega
        case rel =>
          refine ⟨kk + 1, by omega, by omega, by go_num, BW.out.go hb', (show Aside _ from fun j h hj => ?_)⟩
          by_cases e : j = kk
          · subst e
            rw [B.out]; exact hq
          · exact A.out j h (by omega)
    · have : kk = xs.length := by omega
      subst this
      clear hr hp hC
      go_wp2
      go_ret
      exact ⟨ret_int (idxI_miss A.out).symm, BW.out⟩

theorem contains_byte (xs : List UInt8) (v : Value) (g : Nat) (lb : Array Value) (C : UInt8 → Prop) (p : UInt8 → Bool) (w : World) (hv : Rd encB 1 w v xs) (hC : ∀ x ∈ xs, C x)
    (eg : ∀ args w, (callFunc g args).run Tryz.prog w = .ok (.enter g args) w)
    (hp : Pred Tryz.prog g lb (fun x => .int .u8 (x.toNat : Int)) C p w) :
    Calls Tryz.prog 121 #[v, .func (.func g) #[] lb] w fun e w' => e = .returned (.bool (xs.any p)) ∧ Below w.heap.size w w' := by
  have h := index_byte xs v g lb C p w hv hC eg hp
  clear hC
  have hI := idxI_lt p xs
  have hA := idxI_any p xs
  obtain ⟨A, c, rfl, hc, hm, hr⟩ := hv
  clear hr hp
  generalize idxI p xs = r at h hI hA
  have H := Lib.hid hA; clear hA
  go_enter Tryz.func121, Tryz.ntmps121
  go_wp2_with (go_at_call 136; refine h.mono ?_; rintro e w' ⟨rfl, hb⟩)
  go_ret
  exact ⟨ret_bool H.out, hb⟩

theorem all1_byte (g : Nat) (lb : Array Value) (C : UInt8 → Prop) (p : UInt8 → Bool) (w : World) (b : Nat) (hb : b < w.heap.size) (hc : w.cell? ⟨b, 0, none⟩ = some (.func (.func g) #[] lb))
    (eg : ∀ args w, (callFunc g args).run Tryz.prog w = .ok (.enter g args) w)
    (hp : Pred Tryz.prog g lb (fun x => .int .u8 (x.toNat : Int)) C p w) :
    Pred Tryz.prog 122 #[.pointer (some ⟨b, 0, none⟩)] (fun x => .int .u8 (x.toNat : Int)) C (fun x => !p x) w := by
  intro W x hx hW
  have hcW := (hW.cell (p := ⟨b, 0, none⟩) hb).trans hc
  have hcall := hp W x hx hW
  have hsz := hW.size
  have hbW : b < W.heap.size := by omega
  clear hp hc hW hx
  dsimp only
  generalize p x = q at hcall ⊢
  go_enter Tryz.func122, Tryz.ntmps122
  go_wp2_with (go_at_fn g; refine hcall.mono ?_; rintro e w' ⟨rfl, hb'⟩)
  go_ret
  exact ⟨rfl, hb'⟩

theorem all_byte (xs : List UInt8) (v : Value) (g : Nat) (lb : Array Value) (C : UInt8 → Prop) (p : UInt8 → Bool) (w : World) (hv : Rd encB 1 w v xs) (hC : ∀ x ∈ xs, C x)
    (eg : ∀ args w, (callFunc g args).run Tryz.prog w = .ok (.enter g args) w)
    (hp : Pred Tryz.prog g lb (fun x => .int .u8 (x.toNat : Int)) C p w) :
    Calls Tryz.prog 103 #[v, .func (.func g) #[] lb] w fun e w' => e = .returned (.bool (xs.all p)) ∧ Below w.heap.size w w' := by
  have hB : Below w.heap.size w (w.alloc (.cells #[.func (.func g) #[] lb] 189)) := (Below.refl _ _).alloc (Nat.le_refl _) _
  have h := contains_byte xs v 122 #[.pointer (some ⟨w.heap.size, 0, none⟩)] C (fun x => !p x) (w.alloc (.cells #[.func (.func g) #[] lb] 189)) (hv.below hB) hC (enters_of Tryz.func122 (by kernel_rfl) rfl) (all1_byte g lb C p _ _ (by simp) (by simp [go_sem]) eg (hp.later hB))
  have hA : (!(xs.any fun x => !p x)) = xs.all p := (List.all_eq_not_any_not ..).symm
  have H := Lib.hid hA; clear hA
  obtain ⟨A, c, rfl, hc, hm, hr⟩ := hv
  clear hr hp hC
  generalize (xs.any fun x => !p x) = r at h H
  go_enter Tryz.func103, Tryz.ntmps103
  go_wp2_with (go_at_call 121; refine h.mono ?_; rintro e w' ⟨rfl, hb⟩)
  go_ret
  exact ⟨ret_bool H.out, hB.go hb⟩

set_option maxHeartbeats 400000 in
theorem index_para (xs : List Para) (v : Value) (g : Nat) (lb : Array Value) (C : Para → Prop) (p : Para → Bool) (w : World) (hv : Rd Para.enc 2 w v xs) (hC : ∀ x ∈ xs, C x)
    (eg : ∀ args w, (callFunc g args).run Tryz.prog w = .ok (.enter g args) w)
    (hp : Pred Tryz.prog g lb (fun x => x.val) C p w) :
    Calls Tryz.prog 120 #[v, .func (.func g) #[] lb] w fun e w' => e = .returned (.int .i64 (idxI p xs)) ∧ Below w.heap.size w w' := by
  obtain ⟨A, c, rfl, hc, hm, hr⟩ := hv
  go_enter Tryz.func120, Tryz.ntmps120
  go_wp2
  go_loopg [5, 8] xs.length (fun gg _ s8 wr => ∃ kk : Nat, kk ≤ xs.length ∧ xs.length - kk ≤ gg ∧ s8 = .int .i64 kk ∧ Aside (Below w.heap.size w wr) ∧ Aside (∀ j (h : j < xs.length), j < kk → p xs[j] = false))
  case atStart => exact ⟨0, Nat.zero_le _, by omega, rfl, Below.refl _ w, fun j _ hj => absurd hj (Nat.not_lt_zero _)⟩
  case round =>
    obtain ⟨kk, hkk, hg, rfl, BW, A⟩ := hrel
    by_cases hlt : kk < xs.length
    · obtain ⟨b, off, rfl, hb, hr1⟩ := hr (by omega)
      clear hr
      have hcall := hp wr xs[kk] (hC _ (List.getElem_mem hlt)) BW.out
      clear hC
      have hc' := (hr1.below hb BW.out) kk hlt
      clear hr1
      generalize hy : xs[kk] = y at hcall hc'
      have B : Aside (xs[kk] = y) := hy
      clear hy hp
      obtain ⟨y0, y1⟩ := y
      have c0 := hc' 0 _ rfl; have c1 := hc' 1 _ rfl
      clear hc'
      dsimp only [Para.val] at hcall
      simp only [Nat.add_zero] at c0
      cases hq : p ⟨y0, y1⟩ with
      | true =>
        rw [hq] at hcall
        go_wp2_with (go_at_fn g; refine hcall.mono ?_; rintro e w' ⟨rfl, hb'⟩)
        go_ret
        exact ⟨ret_int (idxI_hit hlt (by rw [B.out]; exact hq) A.out).symm, BW.out.go hb'⟩
      | false =>
        rw [hq] at hcall
        go_wp2_with (go_at_fn g; refine hcall.mono ?_; rintro e w' ⟨rfl, hb'⟩)
        go_roundg (xs.length - (kk + 1))
        case measure => omega
        case rel =>
          refine ⟨kk + 1, by omega, by omega, by go_num, BW.out.go hb', (show Aside _ from fun j h hj => ?_)⟩
          by_cases e : j = kk
          · subst e
            rw [B.out]; exact hq
          · exact A.out j h (by omega)
    · have : kk = xs.length := by omega
      subst this
      clear hr hp hC
      go_wp2
      go_ret
      exact ⟨ret_int (idxI_miss A.out).symm, BW.out⟩

theorem contains_para (xs : List Para) (v : Value) (g : Nat) (lb : Array Value) (C : Para → Prop) (p : Para → Bool) (w : World) (hv : Rd Para.enc 2 w v xs) (hC : ∀ x ∈ xs, C x)
    (eg : ∀ args w, (callFunc g args).run Tryz.prog w = .ok (.enter g args) w)
    (hp : Pred Tryz.prog g lb (fun x => x.val) C p w) :
    Calls Tryz.prog 101 #[v, .func (.func g) #[] lb] w fun e w' => e = .returned (.bool (xs.any p)) ∧ Below w.heap.size w w' := by
  have h := index_para xs v g lb C p w hv hC eg hp
  clear hC
  have hI := idxI_lt p xs
  have hA := idxI_any p xs
  obtain ⟨A, c, rfl, hc, hm, hr⟩ := hv
  clear hr hp
  generalize idxI p xs = r at h hI hA
  have H := Lib.hid hA; clear hA
  go_enter Tryz.func101, Tryz.ntmps101
  go_wp2_with (go_at_call 120; refine h.mono ?_; rintro e w' ⟨rfl, hb⟩)
  go_ret
  exact ⟨ret_bool H.out, hb⟩

theorem all1_para (g : Nat) (lb : Array Value) (C : Para → Prop) (p : Para → Bool) (w : World) (b : Nat) (hb : b < w.heap.size) (hc : w.cell? ⟨b, 0, none⟩ = some (.func (.func g) #[] lb))
    (eg : ∀ args w, (callFunc g args).run Tryz.prog w = .ok (.enter g args) w)
    (hp : Pred Tryz.prog g lb (fun x => x.val) C p w) :
    Pred Tryz.prog 102 #[.pointer (some ⟨b, 0, none⟩)] (fun x => x.val) C (fun x => !p x) w := by
  intro W x hx hW
  have hcW := (hW.cell (p := ⟨b, 0, none⟩) hb).trans hc
  have hcall := hp (W.alloc (.cells x.val.cells 67)) x hx (hW.alloc hW.size _)
  have hsz := hW.size
  have hbW : b < W.heap.size := by omega
  clear hp hc hW hx
  dsimp only
  generalize p x = q at hcall ⊢
  obtain ⟨y0, y1⟩ := x
  dsimp only [Para.val, Value.cells] at hcall ⊢
  go_enter Tryz.func102, Tryz.ntmps102
  go_wp2_with (go_at_fn g; refine hcall.mono ?_; rintro e w' ⟨rfl, hb'⟩)
  go_ret
  exact ⟨rfl, ((Below.refl _ _).alloc (Nat.le_refl _) _).go hb'⟩

theorem all_para (xs : List Para) (v : Value) (g : Nat) (lb : Array Value) (C : Para → Prop) (p : Para → Bool) (w : World) (hv : Rd Para.enc 2 w v xs) (hC : ∀ x ∈ xs, C x)
    (eg : ∀ args w, (callFunc g args).run Tryz.prog w = .ok (.enter g args) w)
    (hp : Pred Tryz.prog g lb (fun x => x.val) C p w) :
    Calls Tryz.prog 67 #[v, .func (.func g) #[] lb] w fun e w' => e = .returned (.bool (xs.all p)) ∧ Below w.heap.size w w' := by
  have hB : Below w.heap.size w (w.alloc (.cells #[.func (.func g) #[] lb] 165)) := (Below.refl _ _).alloc (Nat.le_refl _) _
  have h := contains_para xs v 102 #[.pointer (some ⟨w.heap.size, 0, none⟩)] C (fun x => !p x) (w.alloc (.cells #[.func (.func g) #[] lb] 165)) (hv.below hB) hC (enters_of Tryz.func102 (by kernel_rfl) rfl) (all1_para g lb C p _ _ (by simp) (by simp [go_sem]) eg (hp.later hB))
  have hA : (!(xs.any fun x => !p x)) = xs.all p := (List.all_eq_not_any_not ..).symm
  have H := Lib.hid hA; clear hA
  obtain ⟨A, c, rfl, hc, hm, hr⟩ := hv
  clear hr hp hC
  generalize (xs.any fun x => !p x) = r at h H
  go_enter Tryz.func67, Tryz.ntmps67
  go_wp2_with (go_at_call 101; refine h.mono ?_; rintro e w' ⟨rfl, hb⟩)
  go_ret
  exact ⟨ret_bool H.out, hB.go hb⟩

set_option maxHeartbeats 400000 in
theorem index_err (xs : List Err) (v : Value) (g : Nat) (lb : Array Value) (C : Err → Prop) (p : Err → Bool) (w : World) (hv : Rd Err.enc 6 w v xs) (hC : ∀ x ∈ xs, C x)
    (eg : ∀ args w, (callFunc g args).run Tryz.prog w = .ok (.enter g args) w)
    (hp : Pred Tryz.prog g lb (fun x => x.val) C p w) :
    Calls Tryz.prog 105 #[v, .func (.func g) #[] lb] w fun e w' => e = .returned (.int .i64 (idxI p xs)) ∧ Below w.heap.size w w' := by
  obtain ⟨A, c, rfl, hc, hm, hr⟩ := hv
  go_enter Tryz.func105, Tryz.ntmps105
  go_wp2
  go_loopg [5, 8] xs.length (fun gg _ s8 wr => ∃ kk : Nat, kk ≤ xs.length ∧ xs.length - kk ≤ gg ∧ s8 = .int .i64 kk ∧ Aside (Below w.heap.size w wr) ∧ Aside (∀ j (h : j < xs.length), j < kk → p xs[j] = false))
  case atStart => exact ⟨0, Nat.zero_le _, by omega, rfl, Below.refl _ w, fun j _ hj => absurd hj (Nat.not_lt_zero _)⟩
  case round =>
    obtain ⟨kk, hkk, hg, rfl, BW, A⟩ := hrel
    by_cases hlt : kk < xs.length
    · obtain ⟨b, off, rfl, hb, hr1⟩ := hr (by omega)
      clear hr
      have hcall := hp wr xs[kk] (hC _ (List.getElem_mem hlt)) BW.out
      clear hC
      have hc' := (hr1.below hb BW.out) kk hlt
      clear hr1
      generalize hy : xs[kk] = y at hcall hc'
      have B : Aside (xs[kk] = y) := hy
      clear hy hp
      obtain ⟨y0, y1, y2, y3, y4, y5⟩ := y
      have c0 := hc' 0 _ rfl; have c1 := hc' 1 _ rfl; have c2 := hc' 2 _ rfl; have c3 := hc' 3 _ rfl; have c4 := hc' 4 _ rfl; have c5 := hc' 5 _ rfl
      clear hc'
      dsimp only [Err.val] at hcall
      simp only [Nat.add_zero] at c0
      cases hq : p ⟨y0, y1, y2, y3, y4, y5⟩ with
      | true =>
        rw [hq] at hcall
        go_wp2_with (go_at_fn g; refine hcall.mono ?_; rintro e w' ⟨rfl, hb'⟩)
        go_ret
        exact ⟨ret_int (idxI_hit hlt (by rw [B.out]; exact hq) A.out).symm, BW.out.go hb'⟩
      | false =>
        rw [hq] at hcall
        go_wp2_with (go_at_fn g; refine hcall.mono ?_; rintro e w' ⟨rfl, hb'⟩)
        go_roundg (xs.length - (kk + 1))
        case measure => omega
        case rel =>
          refine ⟨kk + 1, by omega, by omega, by go_num, BW.out.go hb', (show Aside _ from fun j h hj => ?_)⟩
          by_cases e : j = kk
          · subst e
            rw [B.out]; exact hq
          · exact A.out j h (by omega)
    · have : kk = xs.length := by omega
      subst this
      clear hr hp hC
      go_wp2
      go_ret
      exact ⟨ret_int (idxI_miss A.out).symm, BW.out⟩

theorem contains_err (xs : List Err) (v : Value) (g : Nat) (lb : Array Value) (C : Err → Prop) (p : Err → Bool) (w : World) (hv : Rd Err.enc 6 w v xs) (hC : ∀ x ∈ xs, C x)
    (eg : ∀ args w, (callFunc g args).run Tryz.prog w = .ok (.enter g args) w)
    (hp : Pred Tryz.prog g lb (fun x => x.val) C p w) :
    Calls Tryz.prog 75 #[v, .func (.func g) #[] lb] w fun e w' => e = .returned (.bool (xs.any p)) ∧ Below w.heap.size w w' := by
  have h := index_err xs v g lb C p w hv hC eg hp
  clear hC
  have hI := idxI_lt p xs
  have hA := idxI_any p xs
  obtain ⟨A, c, rfl, hc, hm, hr⟩ := hv
  clear hr hp
  generalize idxI p xs = r at h hI hA
  have H := Lib.hid hA; clear hA
  go_enter Tryz.func75, Tryz.ntmps75
  go_wp2_with (go_at_call 105; refine h.mono ?_; rintro e w' ⟨rfl, hb⟩)
  go_ret
  exact ⟨ret_bool H.out, hb⟩

theorem all1_err (g : Nat) (lb : Array Value) (C : Err → Prop) (p : Err → Bool) (w : World) (b : Nat) (hb : b < w.heap.size) (hc : w.cell? ⟨b, 0, none⟩ = some (.func (.func g) #[] lb))
    (eg : ∀ args w, (callFunc g args).run Tryz.prog w = .ok (.enter g args) w)
    (hp : Pred Tryz.prog g lb (fun x => x.val) C p w) :
    Pred Tryz.prog 76 #[.pointer (some ⟨b, 0, none⟩)] (fun x => x.val) C (fun x => !p x) w := by
  intro W x hx hW
  have hcW := (hW.cell (p := ⟨b, 0, none⟩) hb).trans hc
  have hcall := hp (W.alloc (.cells x.val.cells 77)) x hx (hW.alloc hW.size _)
  have hsz := hW.size
  have hbW : b < W.heap.size := by omega
  clear hp hc hW hx
  dsimp only
  generalize p x = q at hcall ⊢
  obtain ⟨y0, y1, y2, y3, y4, y5⟩ := x
  dsimp only [Err.val, Value.cells] at hcall ⊢
  go_enter Tryz.func76, Tryz.ntmps76
  go_wp2_with (go_at_fn g; refine hcall.mono ?_; rintro e w' ⟨rfl, hb'⟩)
  go_ret
  exact ⟨rfl, ((Below.refl _ _).alloc (Nat.le_refl _) _).go hb'⟩

theorem all_err (xs : List Err) (v : Value) (g : Nat) (lb : Array Value) (C : Err → Prop) (p : Err → Bool) (w : World) (hv : Rd Err.enc 6 w v xs) (hC : ∀ x ∈ xs, C x)
    (eg : ∀ args w, (callFunc g args).run Tryz.prog w = .ok (.enter g args) w)
    (hp : Pred Tryz.prog g lb (fun x => x.val) C p w) :
    Calls Tryz.prog 52 #[v, .func (.func g) #[] lb] w fun e w' => e = .returned (.bool (xs.all p)) ∧ Below w.heap.size w w' := by
  have hB : Below w.heap.size w (w.alloc (.cells #[.func (.func g) #[] lb] 129)) := (Below.refl _ _).alloc (Nat.le_refl _) _
  have h := contains_err xs v 76 #[.pointer (some ⟨w.heap.size, 0, none⟩)] C (fun x => !p x) (w.alloc (.cells #[.func (.func g) #[] lb] 129)) (hv.below hB) hC (enters_of Tryz.func76 (by kernel_rfl) rfl) (all1_err g lb C p _ _ (by simp) (by simp [go_sem]) eg (hp.later hB))
  have hA : (!(xs.any fun x => !p x)) = xs.all p := (List.all_eq_not_any_not ..).symm
  have H := Lib.hid hA; clear hA
  obtain ⟨A, c, rfl, hc, hm, hr⟩ := hv
  clear hr hp hC
  generalize (xs.any fun x => !p x) = r at h H
  go_enter Tryz.func52, Tryz.ntmps52
  go_wp2_with (go_at_call 75; refine h.mono ?_; rintro e w' ⟨rfl, hb⟩)
  go_ret
  exact ⟨ret_bool H.out, hB.go hb⟩
end Go.Proofs.YtjkmdpejcgepkaaGreatDoor
