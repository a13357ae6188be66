/- The reference's Parse. -/
import Derived.Test.YtjkmdpejcgepkaaGreatDoorJ4
import Derived.Laws.NewBlocks
import Derived.BigRegion
namespace Go.Proofs.YtjkmdpejcgepkaaGreatDoor
open Go.RowKit
def wordsL : List (List Value) := [[.string ⟨#[118, 111, 108, 46, 32]⟩, .string ⟨#[44, 32, 99, 111, 108, 46, 32]⟩, .string ⟨#[44, 32, 108, 46, 32]⟩, .string ⟨#[]⟩], [.string ⟨#[118, 111, 108, 46, 32]⟩, .string ⟨#[44, 32]⟩, .string ⟨#[44, 32, 112, 97, 114, 46, 32]⟩, .string ⟨#[]⟩], [.string ⟨#[]⟩, .string ⟨#[64]⟩, .string ⟨#[]⟩, .string ⟨#[]⟩]]
def wordsC : Array Value := #[.string ⟨#[118, 111, 108, 46, 32]⟩, .string ⟨#[44, 32, 99, 111, 108, 46, 32]⟩, .string ⟨#[44, 32, 108, 46, 32]⟩, .string ⟨#[]⟩, .string ⟨#[118, 111, 108, 46, 32]⟩, .string ⟨#[44, 32]⟩, .string ⟨#[44, 32, 112, 97, 114, 46, 32]⟩, .string ⟨#[]⟩, .string ⟨#[]⟩, .string ⟨#[64]⟩, .string ⟨#[]⟩, .string ⟨#[]⟩]
def wordAt (st k : Nat) : ByteArray := match wordsC[st * 4 + k]? with | some (.string b) => b | _ => ⟨#[]⟩
def manyOf (st : Nat) : Nat := if st = 2 then 2 else 3
/-- the world of a parse ahead of a round -/
structure PW (w W : World) : Prop where
  res : W.heap[w.heap.size]? = some (.cells #[.int .i64 0, .int .i64 0, .int .i64 0] 69 (0, 0))
  words : W.heap[w.heap.size + 1]? = some (.cells wordsC 114 (0, 0))
  below : Below w.heap.size w W
theorem PW.made (w : World) : PW w ((w.alloc (.cells #[.int .i64 0, .int .i64 0, .int .i64 0] 69)).alloc (.cells wordsC 114)) := by
  refine ⟨?_, ?_, ((Below.refl _ w).alloc (Nat.le_refl _) _).alloc (by simp) _⟩
  · rw [Below.heap_alloc _ _ _ (by simp)]; exact World.alloc_heap_new w _
  · have h := World.alloc_heap_new (w.alloc (.cells #[.int .i64 0, .int .i64 0, .int .i64 0] 69)) (.cells wordsC 114)
    rw [World.size_alloc] at h; exact h
theorem PW.alloc {w W : World} (h : PW w W) (o : Obj) : PW w (W.alloc o) := by
  have h1 : w.heap.size + 1 < W.heap.size := (Array.getElem?_eq_some_iff.1 h.words).1
  refine ⟨?_, ?_, h.below.alloc (by omega) _⟩
  · rw [Below.heap_alloc _ _ _ (by omega)]; exact h.res
  · rw [Below.heap_alloc _ _ _ (by omega)]; exact h.words
theorem PW.word {w W : World} (h : PW w W) (st k : Nat) (hs : st ≤ 2) (hk : k ≤ 3) : W.cell? ⟨w.heap.size + 1, st * 4 + k, none⟩ = some (.string (wordAt st k)) := by
  have e : wordsC[st * 4 + k]? = some (.string (wordAt st k)) := by
    have h1 : st = 0 ∨ st = 1 ∨ st = 2 := by omega
    have h2 : k = 0 ∨ k = 1 ∨ k = 2 ∨ k = 3 := by omega
    rcases h1 with rfl | rfl | rfl <;> rcases h2 with rfl | rfl | rfl | rfl <;> rfl
  simp [World.cell?, h.words, e]
def RefParse (w : World) (st n0 n1 n2 : Int) (e : Ending) (w' : World) : Prop := e = .returned (.tuple #[.int .u8 st, .agg #[.int .i64 n0, .int .i64 n1, .int .i64 n2], .bool true]) ∧ Below w.heap.size w w'
theorem cells3 {W : World} {c : Nat} {v0 v1 v2 : Value} {T : TypeId} (h : W.heap[c]? = some (.cells #[v0, v1, v2] T (0, 0))) : W.cell? ⟨c, 0, none⟩ = some v0 ∧ W.cell? ⟨c, 1, none⟩ = some v1 ∧ W.cell? ⟨c, 2, none⟩ = some v2 := by
  simp [World.cell?, h]
theorem set3_heap {W : World} {c : Nat} {o0 o1 o2 : Value} {T : TypeId} (v0 v1 v2 : Value) (o : Obj) (h : W.heap[c]? = some (.cells #[o0, o1, o2] T (0, 0))) :
    (((((W.setCell ⟨c, 0, none⟩ v0).setCell ⟨c, 1, none⟩ v1).setCell ⟨c, 2, none⟩ v2).alloc o).drew).heap[c]? = some (.cells #[v0, v1, v2] T (0, 0)) := by
  have hl : c < W.heap.size := (Array.getElem?_eq_some_iff.1 h).1
  show ((((W.setCell ⟨c, 0, none⟩ v0).setCell ⟨c, 1, none⟩ v1).setCell ⟨c, 2, none⟩ v2).alloc o).heap[c]? = _
  rw [Below.heap_alloc _ _ _ (by simp only [World.size_setCell]; exact hl)]
  simp [World.setCell, Array.getElem?_modify, h]
theorem set3_below {w W : World} {B c : Nat} (v0 v1 v2 : Value) (o : Obj) (h : Below B w W) (hc : B ≤ c) (hz : B ≤ W.heap.size) : Below B w ((((W.setCell ⟨c, 0, none⟩ v0).setCell ⟨c, 1, none⟩ v1).setCell ⟨c, 2, none⟩ v2).alloc o).drew :=
  ((((h.setCell (p := ⟨c, 0, none⟩) hc v0).setCell (p := ⟨c, 1, none⟩) hc v1).setCell (p := ⟨c, 2, none⟩) hc v2).alloc (by simp only [World.size_setCell]; exact hz) o).drew
theorem ret_rparse {W : World} {c : Nat} {v0 v1 v2 st : Value} {b : Bool} (a : Act) (h2 : a.tmps[2]? = some st) (h3 : a.tmps[3]? = some (.pointer (some ⟨c, 0, none⟩))) (h4 : a.tmps[4]? = some (.bool b)) (h : W.heap[c]? = some (.cells #[v0, v1, v2] 69 (0, 0))) : (results Tryz.f24 a.tmps).run Tryz.prog W = .ok (.tuple #[st, .agg #[v0, v1, v2], .bool b]) W := by
  obtain ⟨k0, k1, k2⟩ := cells3 h
  simp [results, Tryz.results24, go_sem, k0, k1, k2, h2, h3, h4]
set_option maxHeartbeats 4000000 in
set_option maxRecDepth 100000 in
theorem rparse_core (s : ByteArray) (S : Nat) (At R N : Nat → Nat → Int) (w : World) (hS : S ≤ 2)
    (hT0 : ∀ st, st ≤ S → TakeIs s (wordAt st 0) 0 (At st 0))
    (hN : ∀ st k, st ≤ S → k < manyOf st → NumIs s (At st k) (N st k) (R st k))
    (hT : ∀ st k, st ≤ S → k < manyOf st → TakeIs s (wordAt st (k + 1)) (R st k) (At st (k + 1)))
    (hbad : ∀ st, st < S → At st (manyOf st) = -1) (hgood : At S (manyOf S) = s.size) (hday : S ≠ 0 → N S 1 ≤ 99999) :
    Calls Tryz.prog 24 #[.string s] w (RefParse w S (N S 0) (N S 1) (if S = 2 then 0 else N S 2)) := by
  have HP := Lib.hid (PW.made w)
  have HT0 := Lib.hid hT0
  have HN := Lib.hid hN
  have HT := Lib.hid hT
  have HBAD := Lib.hid hbad
  have HGOOD := Lib.hid hgood
  have HDAY := Lib.hid hday
  clear hT0 hN hT hbad hgood hday
  generalize hPP : RefParse w S (N S 0) (N S 1) (if S = 2 then 0 else N S 2) = PP
  have HPP := Lib.hid hPP
  clear hPP
  unfold wordsC at HP
  go_enter Tryz.func24, Tryz.ntmps24
  go_wp2
  go_loopg [6] 3 (fun gg s6 wr => ∃ kk : Nat, kk ≤ S ∧ 3 - kk ≤ gg ∧ s6 = .int .i64 kk ∧ Aside (PW w wr))
  case atStart => exact ⟨0, Nat.zero_le _, by omega, rfl, HP.out⟩
  case round =>
    obtain ⟨st, hst, hg, rfl, A2⟩ := hrel
    have hP := A2.out
    clear A2
    have HW : Hid (PW w wr) := Lib.hid hP
    have ht0 := HT0.out st hst
    have hsz : w.heap.size + 1 < wr.heap.size := (Array.getElem?_eq_some_iff.1 hP.words).1
    have hsz0 : w.heap.size < wr.heap.size := by omega
    have hfr : wr.frozen? ⟨w.heap.size, 0, none⟩ = false := by simp [World.frozen?, hP.res]
    have hfr1 : wr.frozen? ⟨w.heap.size, 1, none⟩ = false := by simp [World.frozen?, hP.res]
    have hfr2 : wr.frozen? ⟨w.heap.size, 2, none⟩ = false := by simp [World.frozen?, hP.res]
    have e0 := hP.res
    have f0 : wr.cell? ⟨w.heap.size, 0, none⟩ = some (.int .i64 0) := by simp [World.cell?, e0]
    have f1 : wr.cell? ⟨w.heap.size, 1, none⟩ = some (.int .i64 0) := by simp [World.cell?, e0]
    have f2 : wr.cell? ⟨w.heap.size, 2, none⟩ = some (.int .i64 0) := by simp [World.cell?, e0]
    clear e0
    have h3 : st = 0 ∨ st = 1 ∨ st = 2 := by omega
    rcases h3 with rfl | rfl | rfl
    · have w0 := hP.word 0 0 (by decide) (by decide)
      have w1 := hP.word 0 1 (by decide) (by decide)
      have w2 := hP.word 0 2 (by decide) (by decide)
      have w3 := hP.word 0 3 (by decide) (by decide)
      simp only [Nat.zero_mul, Nat.zero_add] at w0 w1 w2 w3
      clear hP
      go_wp2_with (first | (go_at_call 42; refine (ht0 _).mono ?_; rintro e w' ⟨rfl, rfl⟩))
      go_loopg [9, 10] 3 (fun gg s9 s10 wq => ∃ kk : Nat, ∃ c0 c1 c2 : Int, kk ≤ 3 ∧ 3 - kk ≤ gg ∧ s9 = .int .i64 (At 0 kk) ∧ s10 = .int .i64 kk ∧ wq = wr.alloc (.cells #[.int .i64 c0, .int .i64 c1, .int .i64 c2] 69) ∧ Aside ((0 < kk → c0 = N 0 0) ∧ (1 < kk → c1 = N 0 1) ∧ (2 < kk → c2 = N 0 2)))
      case atStart => exact ⟨0, 0, 0, 0, by omega, by omega, rfl, rfl, rfl, fun h => by omega, fun h => by omega, fun h => by omega⟩
      case round =>
        obtain ⟨kk, c0, c1, c2, hkk, hg2, rfl, rfl, rfl, A2⟩ := hrel
        have h4 : kk = 0 ∨ kk = 1 ∨ kk = 2 ∨ kk = 3 := by omega
        rcases h4 with rfl | rfl | rfl | rfl
        · have hn := HN.out 0 0 hst (by decide)
          have ht := HT.out 0 0 hst (by decide)
          go_wp2_with (first | (go_at_call 43; refine (hn _).mono ?_; rintro e w' ⟨rfl, rfl⟩) | (go_at_call 42; refine (ht _).mono ?_; rintro e w' ⟨rfl, rfl⟩))
          go_roundg (3 - 1)
          case measure => exact measU hg2 (by decide)
          case rel => exact ⟨1, _, _, _, by omega, by omega, rfl, rfl, rfl, fun _ => rfl, fun h => by omega, fun h => by omega⟩
        · have hn := HN.out 0 1 hst (by decide)
          have ht := HT.out 0 1 hst (by decide)
          go_wp2_with (first | (go_at_call 43; refine (hn _).mono ?_; rintro e w' ⟨rfl, rfl⟩) | (go_at_call 42; refine (ht _).mono ?_; rintro e w' ⟨rfl, rfl⟩))
          go_roundg (3 - 2)
          case measure => exact measU hg2 (by decide)
          case rel => exact ⟨2, _, _, _, by omega, by omega, rfl, rfl, rfl, fun _ => A2.out.1 (by decide), fun _ => rfl, fun h => by omega⟩
        · have hn := HN.out 0 2 hst (by decide)
          have ht := HT.out 0 2 hst (by decide)
          go_wp2_with (first | (go_at_call 43; refine (hn _).mono ?_; rintro e w' ⟨rfl, rfl⟩) | (go_at_call 42; refine (ht _).mono ?_; rintro e w' ⟨rfl, rfl⟩))
          go_roundg (3 - 3)
          case measure => exact measU hg2 (by decide)
          case rel => exact ⟨3, _, _, _, by omega, by omega, rfl, rfl, rfl, fun _ => A2.out.1 (by decide), fun _ => A2.out.2.1 (by decide), fun _ => rfl⟩
        · have hc0 := A2.out.1 (by decide)
          have hc1 := A2.out.2.1 (by decide)
          have hc2 := A2.out.2.2 (by decide)
          clear A2
          by_cases hS0 : S = 0
          · subst hS0
            have hg3 : At 0 3 = s.size := HGOOD.out
            rw [hg3]
            have HFIN := Lib.hid (show ∀ e W, e = .returned (.tuple #[.int .u8 0, .agg #[.int .i64 c0, .int .i64 c1, .int .i64 c2], .bool true]) → Below w.heap.size w W → PP e W from fun e W h1 h2 => by rw [← HPP.out, h1, hc0, hc1, hc2]; exact ⟨rfl, h2⟩)
            clear hc0 hc1 hc2 hg3
            go_wp2
            go_region
            go_wp2
            refine bodyPost_ret (v := .tuple #[.int .u8 0, .agg #[.int .i64 c0, .int .i64 c1, .int .i64 c2], .bool true]) (ret_rparse _ rfl rfl rfl (set3_heap _ _ _ _ HW.out.res)) rfl (HFIN.out _ _ rfl (set3_below _ _ _ _ HW.out.below (Nat.le_refl _) HW.out.below.size))
          · have hb3 : At 0 3 = -1 := HBAD.out 0 (by omega)
            rw [hb3]
            clear hc0 hc1 hc2 hb3
            have hne : ((-1 : Int) == (s.size : Int)) = false := by simp
            go_wp2
            go_roundg (3 - 1)
            case measure => exact measU hg (by decide)
            case rel => exact ⟨1, by omega, by omega, by go_num, HW.out.alloc _⟩
    · have w0 := hP.word 1 0 (by decide) (by decide)
      have w1 := hP.word 1 1 (by decide) (by decide)
      have w2 := hP.word 1 2 (by decide) (by decide)
      have w3 := hP.word 1 3 (by decide) (by decide)
      simp only [Nat.reduceMul, Nat.reduceAdd] at w0 w1 w2 w3
      clear hP
      go_wp2_with (first | (go_at_call 42; refine (ht0 _).mono ?_; rintro e w' ⟨rfl, rfl⟩))
      go_loopg [9, 10] 3 (fun gg s9 s10 wq => ∃ kk : Nat, ∃ c0 c1 c2 : Int, kk ≤ 3 ∧ 3 - kk ≤ gg ∧ s9 = .int .i64 (At 1 kk) ∧ s10 = .int .i64 kk ∧ wq = wr.alloc (.cells #[.int .i64 c0, .int .i64 c1, .int .i64 c2] 69) ∧ Aside ((0 < kk → c0 = N 1 0) ∧ (1 < kk → c1 = N 1 1) ∧ (2 < kk → c2 = N 1 2)))
      case atStart => exact ⟨0, 0, 0, 0, by omega, by omega, rfl, rfl, rfl, fun h => by omega, fun h => by omega, fun h => by omega⟩
      case round =>
        obtain ⟨kk, c0, c1, c2, hkk, hg2, rfl, rfl, rfl, A2⟩ := hrel
        have h4 : kk = 0 ∨ kk = 1 ∨ kk = 2 ∨ kk = 3 := by omega
        rcases h4 with rfl | rfl | rfl | rfl
        · have hn := HN.out 1 0 hst (by decide)
          have ht := HT.out 1 0 hst (by decide)
          go_wp2_with (first | (go_at_call 43; refine (hn _).mono ?_; rintro e w' ⟨rfl, rfl⟩) | (go_at_call 42; refine (ht _).mono ?_; rintro e w' ⟨rfl, rfl⟩))
          go_roundg (3 - 1)
          case measure => exact measU hg2 (by decide)
          case rel => exact ⟨1, _, _, _, by omega, by omega, rfl, rfl, rfl, fun _ => rfl, fun h => by omega, fun h => by omega⟩
        · have hn := HN.out 1 1 hst (by decide)
          have ht := HT.out 1 1 hst (by decide)
          go_wp2_with (first | (go_at_call 43; refine (hn _).mono ?_; rintro e w' ⟨rfl, rfl⟩) | (go_at_call 42; refine (ht _).mono ?_; rintro e w' ⟨rfl, rfl⟩))
          go_roundg (3 - 2)
          case measure => exact measU hg2 (by decide)
          case rel => exact ⟨2, _, _, _, by omega, by omega, rfl, rfl, rfl, fun _ => A2.out.1 (by decide), fun _ => rfl, fun h => by omega⟩
        · have hn := HN.out 1 2 hst (by decide)
          have ht := HT.out 1 2 hst (by decide)
          go_wp2_with (first | (go_at_call 43; refine (hn _).mono ?_; rintro e w' ⟨rfl, rfl⟩) | (go_at_call 42; refine (ht _).mono ?_; rintro e w' ⟨rfl, rfl⟩))
          go_roundg (3 - 3)
          case measure => exact measU hg2 (by decide)
          case rel => exact ⟨3, _, _, _, by omega, by omega, rfl, rfl, rfl, fun _ => A2.out.1 (by decide), fun _ => A2.out.2.1 (by decide), fun _ => rfl⟩
        · have hc0 := A2.out.1 (by decide)
          have hc1 := A2.out.2.1 (by decide)
          have hc2 := A2.out.2.2 (by decide)
          clear A2
          by_cases hS0 : S = 1
          · subst hS0
            have hg3 : At 1 3 = s.size := HGOOD.out
            rw [hg3]
            have hday : N 1 1 ≤ 99999 := HDAY.out (by decide)
            rw [← hc1] at hday
            have HFIN := Lib.hid (show ∀ e W, e = .returned (.tuple #[.int .u8 1, .agg #[.int .i64 c0, .int .i64 c1, .int .i64 c2], .bool true]) → Below w.heap.size w W → PP e W from fun e W h1 h2 => by rw [← HPP.out, h1, hc0, hc1, hc2]; exact ⟨rfl, h2⟩)
            clear hc0 hc1 hc2 hg3
            go_wp2
            go_region
            go_wp2
            refine bodyPost_ret (v := .tuple #[.int .u8 1, .agg #[.int .i64 c0, .int .i64 c1, .int .i64 c2], .bool true]) (ret_rparse _ rfl rfl rfl (set3_heap _ _ _ _ HW.out.res)) rfl (HFIN.out _ _ rfl (set3_below _ _ _ _ HW.out.below (Nat.le_refl _) HW.out.below.size))
          · have hb3 : At 1 3 = -1 := HBAD.out 1 (by omega)
            rw [hb3]
            clear hc0 hc1 hc2 hb3
            have hne : ((-1 : Int) == (s.size : Int)) = false := by simp
            go_wp2
            go_roundg (3 - 2)
            case measure => exact measU hg (by decide)
            case rel => exact ⟨2, by omega, by omega, by go_num, HW.out.alloc _⟩
    · have w0 := hP.word 2 0 (by decide) (by decide)
      have w1 := hP.word 2 1 (by decide) (by decide)
      have w2 := hP.word 2 2 (by decide) (by decide)
      simp only [Nat.reduceMul, Nat.reduceAdd] at w0 w1 w2
      clear hP
      go_wp2_with (first | (go_at_call 42; refine (ht0 _).mono ?_; rintro e w' ⟨rfl, rfl⟩))
      go_loopg [9, 10] 2 (fun gg s9 s10 wq => ∃ kk : Nat, ∃ c0 c1 c2 : Int, kk ≤ 2 ∧ 2 - kk ≤ gg ∧ s9 = .int .i64 (At 2 kk) ∧ s10 = .int .i64 kk ∧ wq = wr.alloc (.cells #[.int .i64 c0, .int .i64 c1, .int .i64 c2] 69) ∧ Aside ((0 < kk → c0 = N 2 0) ∧ (1 < kk → c1 = N 2 1) ∧ c2 = 0))
      case atStart => exact ⟨0, 0, 0, 0, by omega, by omega, rfl, rfl, rfl, fun h => by omega, fun h => by omega, rfl⟩
      case round =>
        obtain ⟨kk, c0, c1, c2, hkk, hg2, rfl, rfl, rfl, A2⟩ := hrel
        have h4 : kk = 0 ∨ kk = 1 ∨ kk = 2 := by omega
        rcases h4 with rfl | rfl | rfl
        · have hn := HN.out 2 0 hst (by decide)
          have ht := HT.out 2 0 hst (by decide)
          go_wp2_with (first | (go_at_call 43; refine (hn _).mono ?_; rintro e w' ⟨rfl, rfl⟩) | (go_at_call 42; refine (ht _).mono ?_; rintro e w' ⟨rfl, rfl⟩))
          go_roundg (2 - 1)
          case measure => exact measU hg2 (by decide)
          case rel => exact ⟨1, _, _, _, by omega, by omega, rfl, rfl, rfl, fun _ => rfl, fun h => by omega, A2.out.2.2⟩
        · have hn := HN.out 2 1 hst (by decide)
          have ht := HT.out 2 1 hst (by decide)
          go_wp2_with (first | (go_at_call 43; refine (hn _).mono ?_; rintro e w' ⟨rfl, rfl⟩) | (go_at_call 42; refine (ht _).mono ?_; rintro e w' ⟨rfl, rfl⟩))
          go_roundg (2 - 2)
          case measure => exact measU hg2 (by decide)
          case rel => exact ⟨2, _, _, _, by omega, by omega, rfl, rfl, rfl, fun _ => A2.out.1 (by decide), fun _ => rfl, A2.out.2.2⟩
        · have hc0 := A2.out.1 (by decide)
          have hc1 := A2.out.2.1 (by decide)
          have hc2 := A2.out.2.2
          clear A2
          obtain rfl : S = 2 := by omega
          have hg3 : At 2 2 = s.size := HGOOD.out
          rw [hg3]
          have hday : N 2 1 ≤ 99999 := HDAY.out (by decide)
          rw [← hc1] at hday
          have HFIN := Lib.hid (show ∀ e W, e = .returned (.tuple #[.int .u8 2, .agg #[.int .i64 c0, .int .i64 c1, .int .i64 c2], .bool true]) → Below w.heap.size w W → PP e W from fun e W h1 h2 => by rw [← HPP.out, h1, hc0, hc1, hc2]; exact ⟨rfl, h2⟩)
          clear hc0 hc1 hc2 hg3
          go_wp2
          go_region
          go_wp2
          refine bodyPost_ret (v := .tuple #[.int .u8 2, .agg #[.int .i64 c0, .int .i64 c1, .int .i64 c2], .bool true]) (ret_rparse _ rfl rfl rfl (set3_heap _ _ _ _ HW.out.res)) rfl (HFIN.out _ _ rfl (set3_below _ _ _ _ HW.out.below (Nat.le_refl _) HW.out.below.size))
end Go.Proofs.YtjkmdpejcgepkaaGreatDoor
