/- Paragraphs and places, compared: for the program. -/
import Derived.Test.YtjkmdpejcgepkaaGreatDoorE9
import Derived.Test.YtjkmdpejcgepkaaGreatDoorD0
namespace Go.Proofs.YtjkmdpejcgepkaaGreatDoor
open Go.RowKit
theorem ba_inj {s t : ByteArray} (h : s.toList = t.toList) : s = t := by
  rw [Lib.toList_data, Lib.toList_data] at h; exact ByteArray.ext (Array.toList_inj.1 h)
def CmpPost (w : World) (p : Prop) (e : Ending) (w' : World) : Prop := ∃ b, e = .returned (.bool b) ∧ (b = true ↔ p) ∧ Below w.heap.size w w'
theorem paraCells {w : World} {b off : Nat} {l : List Para} (h : RowAt Para.enc 2 w b off l) (j : Nat) (hj : j < l.length) : w.cell? ⟨b, off + j * 2, none⟩ = some (.int .i64 l[j].anchor) ∧ w.cell? ⟨b, off + j * 2 + 1, none⟩ = some (.string l[j].text) :=
  ⟨h j hj 0 _ rfl, h j hj 1 _ rfl⟩
theorem take_eq_succ {α : Type} [Inhabited α] (xs ys : List α) (k : Nat) (h1 : k < xs.length) (h2 : k < ys.length) (h : xs.take k = ys.take k) (he : xs[k] = ys[k]) : xs.take (k + 1) = ys.take (k + 1) := by
  rw [List.take_succ_eq_append_getElem h1, List.take_succ_eq_append_getElem h2, h, he]
theorem ne_of_get {α : Type} (xs ys : List α) (k : Nat) (h1 : k < xs.length) (h2 : k < ys.length) (he : xs[k] ≠ ys[k]) : xs ≠ ys := fun h => by subst h; exact he rfl
set_option maxHeartbeats 2000000 in
set_option maxRecDepth 100000 in
theorem parascmp_any (v1 v2 : Value) (xs ys : List Para) (w : World) (h1 : Rd Para.enc 2 w v1 xs) (h2 : Rd Para.enc 2 w v2 ys) : Calls Tryz.prog 16 #[v1, v2] w (CmpPost w (xs = ys)) := by
  obtain ⟨A1, c1, rfl, hc1, hm1, hr1⟩ := h1
  obtain ⟨A2, c2, rfl, hc2, hm2, hr2⟩ := h2
  by_cases hl : xs.length = ys.length
  case neg =>
    have hd : Hid (xs ≠ ys) := Lib.hid fun h => hl (by rw [h])
    clear hr1 hr2 hc1 hc2
    have hn : ((xs.length : Int) == (ys.length : Int)) = false := by simp; omega
    go_enter Tryz.func16, Tryz.ntmps16
    go_wp2
    go_ret
    exact ⟨_, rfl, by simpa using hd.out, Below.refl _ _⟩
  case pos =>
    have hn : ((xs.length : Int) == (ys.length : Int)) = true := by simp; omega
    have HQ : Hid (∀ w', Below w.heap.size w w' → xs = ys → CmpPost w (xs = ys) (.returned (.bool true)) w') := Lib.hid fun w' h e => ⟨_, rfl, by simp [e], h⟩
    have HN : Hid (∀ w', Below w.heap.size w w' → xs ≠ ys → CmpPost w (xs = ys) (.returned (.bool false)) w') := Lib.hid fun w' h e => ⟨_, rfl, by simp [e], h⟩
    generalize CmpPost w (xs = ys) = PP at HQ HN ⊢
    go_enter Tryz.func16, Tryz.ntmps16
    go_wp2
    go_loopg [5] xs.length (fun gg s5 wr => ∃ kk : Nat, kk ≤ xs.length ∧ xs.length - kk ≤ gg ∧ s5 = .int .i64 kk ∧ Aside (xs.take kk = ys.take kk ∧ Below w.heap.size w wr))
    case atStart => exact ⟨0, Nat.zero_le _, by omega, rfl, rfl, Below.refl _ _⟩
    case round =>
      obtain ⟨kk, hkk, hg, rfl, A3⟩ := hrel
      by_cases hlt : kk < xs.length
      · obtain ⟨b1, o1, rfl, hb1, hw1⟩ := hr1 (by omega)
        obtain ⟨b2, o2, rfl, hb2, hw2⟩ := hr2 (by omega)
        have hlt2 : kk < ys.length := by omega
        obtain ⟨z1, z2⟩ := paraCells hw1 kk hlt
        obtain ⟨z3, z4⟩ := paraCells hw2 kk hlt2
        rw [← A3.out.2.cell (p := ⟨b1, _, none⟩) hb1] at z1 z2
        rw [← A3.out.2.cell (p := ⟨b2, _, none⟩) hb2] at z3 z4
        have TS := Lib.hid (take_eq_succ xs ys kk hlt hlt2 A3.out.1)
        have NE := Lib.hid (ne_of_get xs ys kk hlt hlt2)
        clear hw1 hw2 hr1 hr2
        generalize xs[kk] = x at z1 z2 TS NE
        generalize ys[kk] = y at z3 z4 TS NE
        obtain ⟨a0, t0⟩ := x
        obtain ⟨a1, t1⟩ := y
        dsimp only at z1 z2 z3 z4
        have i1 : (0 : Int) ≤ ↑kk := by omega
        have i2 : (kk : Int) < (xs.length : Int) := by omega
        have i3 : (kk : Int) < (ys.length : Int) := by omega
        have HB := Lib.hid A3.out.2
        clear A3
        by_cases e1 : a0 = a1
        · by_cases e2 : t0.toList = t1.toList
          · have TS2 := Lib.hid (TS.out (by rw [e1, ba_inj e2])); clear TS NE
            go_wp2
            go_region
            go_wp2
            go_roundg (xs.length - (kk + 1))
            case measure => exact measU hg hlt
            case rel => exact ⟨kk + 1, hlt, Nat.le_refl _, by go_num, TS2.out, HB.out.drew⟩
          · have NE2 := Lib.hid (HN.out _ HB.out.drew (NE.out (fun h => e2 (by injection h with _ h; rw [h])))); clear TS NE HN HQ
            go_wp2
            go_region
            go_wp2
            exact NE2.out
        · have NE2 := Lib.hid (HN.out _ HB.out.drew (NE.out (fun h => e1 (by injection h)))); clear TS NE HN HQ
          go_wp2
          go_region
          go_wp2
          exact NE2.out
      · have : kk = xs.length := Nat.le_antisymm hkk (Nat.le_of_not_lt hlt)
        subst this
        have hx := A3.out.1
        rw [List.take_length, hl, List.take_length] at hx
        have Q2 := Lib.hid (HQ.out wr A3.out.2 hx)
        clear hr1 hr2 A3 HN HQ hx
        go_wp2
        exact Q2.out
theorem plcCells {w : World} {b off : Nat} {l : List Plc} (h : RowAt EPl.f EPl.k w b off l) (j : Nat) (hj : j < l.length) : w.cell? ⟨b, off + j * 4, none⟩ = some (.int .i64 l[j].anchor) ∧ w.cell? ⟨b, off + j * 4 + 1, none⟩ = some (.int .i64 l[j].column) ∧ w.cell? ⟨b, off + j * 4 + 2, none⟩ = some (.int .i64 l[j].line) ∧ w.cell? ⟨b, off + j * 4 + 3, none⟩ = some (.int .i64 l[j].lines) :=
  ⟨h j hj 0 _ rfl, h j hj 1 _ rfl, h j hj 2 _ rfl, h j hj 3 _ rfl⟩
set_option maxHeartbeats 2000000 in
set_option maxRecDepth 100000 in
theorem placescmp_any (v1 v2 : Value) (xs ys : List Plc) (w : World) (h1 : Rd EPl.f EPl.k w v1 xs) (h2 : Rd EPl.f EPl.k w v2 ys) : Calls Tryz.prog 18 #[v1, v2] w (CmpPost w (xs = ys)) := by
  obtain ⟨A1, c1, rfl, hc1, hm1, hr1⟩ := h1
  obtain ⟨A2, c2, rfl, hc2, hm2, hr2⟩ := h2
  by_cases hl : xs.length = ys.length
  case neg =>
    have hd : Hid (xs ≠ ys) := Lib.hid fun h => hl (by rw [h])
    clear hr1 hr2 hc1 hc2
    have hn : ((xs.length : Int) == (ys.length : Int)) = false := by simp; omega
    go_enter Tryz.func18, Tryz.ntmps18
    go_wp2
    go_ret
    exact ⟨_, rfl, by simpa using hd.out, Below.refl _ _⟩
  case pos =>
    have hn : ((xs.length : Int) == (ys.length : Int)) = true := by simp; omega
    have HQ : Hid (∀ w', Below w.heap.size w w' → xs = ys → CmpPost w (xs = ys) (.returned (.bool true)) w') := Lib.hid fun w' h e => ⟨_, rfl, by simp [e], h⟩
    have HN : Hid (∀ w', Below w.heap.size w w' → xs ≠ ys → CmpPost w (xs = ys) (.returned (.bool false)) w') := Lib.hid fun w' h e => ⟨_, rfl, by simp [e], h⟩
    generalize CmpPost w (xs = ys) = PP at HQ HN ⊢
    go_enter Tryz.func18, Tryz.ntmps18
    go_wp2
    go_loopg [5] xs.length (fun gg s5 wr => ∃ kk : Nat, kk ≤ xs.length ∧ xs.length - kk ≤ gg ∧ s5 = .int .i64 kk ∧ Aside (xs.take kk = ys.take kk ∧ Below w.heap.size w wr))
    case atStart => exact ⟨0, Nat.zero_le _, by omega, rfl, rfl, Below.refl _ _⟩
    case round =>
      obtain ⟨kk, hkk, hg, rfl, A3⟩ := hrel
      by_cases hlt : kk < xs.length
      · obtain ⟨b1, o1, rfl, hb1, hw1⟩ := hr1 (by omega)
        obtain ⟨b2, o2, rfl, hb2, hw2⟩ := hr2 (by omega)
        have hlt2 : kk < ys.length := by omega
        obtain ⟨z1, z2, z3, z4⟩ := plcCells hw1 kk hlt
        obtain ⟨y1, y2, y3, y4⟩ := plcCells hw2 kk hlt2
        rw [← A3.out.2.cell (p := ⟨b1, _, none⟩) hb1] at z1 z2 z3 z4
        rw [← A3.out.2.cell (p := ⟨b2, _, none⟩) hb2] at y1 y2 y3 y4
        have TS := Lib.hid (take_eq_succ xs ys kk hlt hlt2 A3.out.1)
        have NE := Lib.hid (ne_of_get xs ys kk hlt hlt2)
        clear hw1 hw2 hr1 hr2
        generalize xs[kk] = x at z1 z2 z3 z4 TS NE
        generalize ys[kk] = y at y1 y2 y3 y4 TS NE
        obtain ⟨a0, a1, a2, a3⟩ := x
        obtain ⟨q0, q1, q2, q3⟩ := y
        dsimp only at z1 z2 z3 z4 y1 y2 y3 y4
        have i1 : (0 : Int) ≤ ↑kk := by omega
        have i2 : (kk : Int) < (xs.length : Int) := by omega
        have i3 : (kk : Int) < (ys.length : Int) := by omega
        have HB := Lib.hid A3.out.2
        clear A3
        by_cases f0 : a0 = q0
        case neg =>
          have NE2 := Lib.hid (HN.out _ HB.out.drew (NE.out (fun h => f0 (by injection h)))); clear TS NE HN HQ
          go_wp2
          go_region
          go_wp2
          exact NE2.out
        case pos =>
          by_cases f1 : a1 = q1
          case neg =>
            have NE2 := Lib.hid (HN.out _ HB.out.drew (NE.out (fun h => f1 (by injection h)))); clear TS NE HN HQ
            go_wp2
            go_region
            go_wp2
            exact NE2.out
          case pos =>
            by_cases f2 : a2 = q2
            case neg =>
              have NE2 := Lib.hid (HN.out _ HB.out.drew (NE.out (fun h => f2 (by injection h)))); clear TS NE HN HQ
              go_wp2
              go_region
              go_wp2
              exact NE2.out
            case pos =>
              by_cases f3 : a3 = q3
              case neg =>
                have NE2 := Lib.hid (HN.out _ HB.out.drew (NE.out (fun h => f3 (by injection h)))); clear TS NE HN HQ
                go_wp2
                go_region
                go_wp2
                exact NE2.out
              case pos =>
                have TS2 := Lib.hid (TS.out (by rw [f0, f1, f2, f3])); clear TS NE
                go_wp2
                go_region
                go_wp2
                go_roundg (xs.length - (kk + 1))
                case measure => exact measU hg hlt
                case rel => exact ⟨kk + 1, hlt, Nat.le_refl _, by go_num, TS2.out, HB.out.drew⟩
      · have : kk = xs.length := Nat.le_antisymm hkk (Nat.le_of_not_lt hlt)
        subst this
        have hx := A3.out.1
        rw [List.take_length, hl, List.take_length] at hx
        have Q2 := Lib.hid (HQ.out wr A3.out.2 hx)
        clear hr1 hr2 A3 HN HQ hx
        go_wp2
        exact Q2.out
end Go.Proofs.YtjkmdpejcgepkaaGreatDoor
/- The third volume: for the program. -/
namespace Go.Proofs.YtjkmdpejcgepkaaGreatDoor
open Go.RowKit
def sHouse : ByteArray := ⟨#[84, 104, 101, 32, 72, 111, 117, 115, 101, 32, 109, 101, 116, 32, 97, 116, 32, 116, 119, 111, 46]⟩
def sPray : ByteArray := ⟨#[80, 114, 97, 121, 101, 114, 115, 46]⟩
def sBill : ByteArray := ⟨#[65, 32, 98, 105, 108, 108, 32, 119, 97, 115, 32, 114, 101, 97, 100, 46]⟩
def sSaid : ByteArray := ⟨#[80, 114, 97, 121, 101, 114, 115, 32, 119, 101, 114, 101, 32, 115, 97, 105, 100, 46]⟩
def sChair : ByteArray := ⟨#[84, 104, 101, 32, 83, 112, 101, 97, 107, 101, 114, 32, 116, 111, 111, 107, 32, 116, 104, 101, 32, 99, 104, 97, 105, 114, 46]⟩
def vol3 : Vol := ⟨3, 50, 3, 10, [⟨40, [⟨11, sHouse⟩, ⟨12, sPray⟩]⟩, ⟨44, [⟨15, sBill⟩]⟩]⟩
def err3 : List Err := [⟨1, 45, 0, 12, sSaid, 0⟩, ⟨2, 60, 1, 11, ⟨#[]⟩, 0⟩, ⟨3, 60, 2, 11, sChair, 20⟩]
theorem rd_of_cells {α : Type} (E : Enc α) (T : TypeId) {W : World} {b n : Nat} {xs : List α} {cs : Array Value} (hh : W.heap[b]? = some (.cells cs T (0, 0))) (hcs : cs.toList = flat E xs) (hn : n = xs.length) (hm : n ≤ maxLen) : Rd E.f E.k W (.slice (some ⟨b, 0, none⟩) n n) xs := by
  subst hn
  have hl : cs.size = xs.length * E.k := by rw [← Array.length_toList, hcs, flat_length]
  exact (Own.of_flat (E := E) (e := T) (base := 0) (Nat.zero_le _) hh (Nat.le_refl _) hm hl (fun j u hu => by rw [← hcs, Array.getElem?_toList] at hu; simp only [World.cell?, hh]; exact hu)).rd
theorem heapFive (w : World) (o0 o1 o2 o3 o4 : Obj) :
    let W := ((((w.alloc o0).alloc o1).alloc o2).alloc o3).alloc o4
    W.heap[w.heap.size]? = some o0 ∧ W.heap[w.heap.size + 1]? = some o1 ∧ W.heap[w.heap.size + 1 + 1]? = some o2 ∧ W.heap[w.heap.size + 1 + 1 + 1]? = some o3 ∧ W.heap[w.heap.size + 1 + 1 + 1 + 1]? = some o4 ∧ Below w.heap.size w W := by
  intro W
  have n0 := World.alloc_heap_new w o0
  have n1 := World.alloc_heap_new (w.alloc o0) o1
  have n2 := World.alloc_heap_new ((w.alloc o0).alloc o1) o2
  have n3 := World.alloc_heap_new (((w.alloc o0).alloc o1).alloc o2) o3
  have n4 := World.alloc_heap_new ((((w.alloc o0).alloc o1).alloc o2).alloc o3) o4
  simp only [World.size_alloc] at n0 n1 n2 n3 n4
  refine ⟨?_, ?_, ?_, ?_, n4, (((((Below.refl _ _).alloc (Nat.le_refl _) _).alloc (by simp) _).alloc (by simp; omega) _).alloc (by simp; omega) _).alloc (by simp; omega) _⟩
  · show W.heap[_]? = _
    rw [Below.heap_alloc _ _ _ (by simp only [World.size_alloc]; omega), Below.heap_alloc _ _ _ (by simp only [World.size_alloc]; omega), Below.heap_alloc _ _ _ (by simp only [World.size_alloc]; omega), Below.heap_alloc _ _ _ (by simp only [World.size_alloc]; omega)]; exact n0
  · rw [Below.heap_alloc _ _ _ (by simp only [World.size_alloc]; omega), Below.heap_alloc _ _ _ (by simp only [World.size_alloc]; omega), Below.heap_alloc _ _ _ (by simp only [World.size_alloc]; omega)]; exact n1
  · rw [Below.heap_alloc _ _ _ (by simp only [World.size_alloc]; omega), Below.heap_alloc _ _ _ (by simp only [World.size_alloc]; omega)]; exact n2
  · rw [Below.heap_alloc _ _ _ (by simp only [World.size_alloc]; omega)]; exact n3
def ThirdPost (w : World) (e : Ending) (w' : World) : Prop := ∃ v1 v2, e = .returned (.tuple #[v1, v2]) ∧ IsVol w' v1 vol3 ∧ RdE w' v2 err3 ∧ Below w.heap.size w w'
set_option maxHeartbeats 2000000 in
set_option maxRecDepth 100000 in
theorem third_any (w : World) : Calls Tryz.prog 25 #[] w (ThirdPost w) := by
  have KEY : Hid (∀ W, W = ((((w.alloc (.cells #[.int .i64 3, .int .i64 50, .int .i64 3, .int .i64 10, .slice (some ⟨w.heap.size + 1 + 1 + 1, 0, none⟩) 2 2] 37)).alloc (.cells #[.int .i64 11, .string sHouse, .int .i64 12, .string sPray] 67)).alloc (.cells #[.int .i64 15, .string sBill] 67)).alloc (.cells #[.int .i64 40, .slice (some ⟨w.heap.size + 1, 0, none⟩) 2 2, .int .i64 44, .slice (some ⟨w.heap.size + 1 + 1, 0, none⟩) 1 1] 79)).alloc (.cells #[.int .i64 1, .int .i64 45, .int .u8 0, .int .i64 12, .string sSaid, .int .i64 0, .int .i64 2, .int .i64 60, .int .u8 1, .int .i64 11, .string ⟨#[]⟩, .int .i64 0, .int .i64 3, .int .i64 60, .int .u8 2, .int .i64 11, .string sChair, .int .i64 20] 77) →
      ThirdPost w (.returned (.tuple #[.agg #[.int .i64 3, .int .i64 50, .int .i64 3, .int .i64 10, .slice (some ⟨w.heap.size + 1 + 1 + 1, 0, none⟩) 2 2], .slice (some ⟨w.heap.size + 1 + 1 + 1 + 1, 0, none⟩) 3 3])) W ∧ W.heap[w.heap.size]? = some (.cells #[.int .i64 3, .int .i64 50, .int .i64 3, .int .i64 10, .slice (some ⟨w.heap.size + 1 + 1 + 1, 0, none⟩) 2 2] 37 (0, 0))) := Lib.hid fun W hW => by
    subst hW
    have H5 := heapFive w (.cells #[.int .i64 3, .int .i64 50, .int .i64 3, .int .i64 10, .slice (some ⟨w.heap.size + 1 + 1 + 1, 0, none⟩) 2 2] 37) (.cells #[.int .i64 11, .string sHouse, .int .i64 12, .string sPray] 67) (.cells #[.int .i64 15, .string sBill] 67) (.cells #[.int .i64 40, .slice (some ⟨w.heap.size + 1, 0, none⟩) 2 2, .int .i64 44, .slice (some ⟨w.heap.size + 1 + 1, 0, none⟩) 1 1] 79) (.cells #[.int .i64 1, .int .i64 45, .int .u8 0, .int .i64 12, .string sSaid, .int .i64 0, .int .i64 2, .int .i64 60, .int .u8 1, .int .i64 11, .string ⟨#[]⟩, .int .i64 0, .int .i64 3, .int .i64 60, .int .u8 2, .int .i64 11, .string sChair, .int .i64 20] 77)
    dsimp only at H5
    generalize ((((w.alloc _).alloc _).alloc _).alloc _).alloc _ = W at H5 ⊢
    obtain ⟨h0, h1, h2, h3, h4, hB⟩ := H5
    refine ⟨⟨_, _, rfl, ⟨_, rfl, _, 2, rfl, Nat.le_refl _, by decide, fun _ => ⟨_, _, rfl, (Array.getElem?_eq_some_iff.1 h3).1, fun j hj => ?_⟩⟩, rd_of_cells EE 77 (xs := err3) h4 rfl rfl (by decide), hB⟩, h0⟩
    have hj2 : j = 0 ∨ j = 1 := by
      have : vol3.parts.length = 2 := rfl
      omega
    rcases hj2 with rfl | rfl
    · exact ⟨by simp [World.cell?, h3, vol3], _, by simp [World.cell?, h3], rd_of_cells EP 67 (xs := [⟨11, sHouse⟩, ⟨12, sPray⟩]) h1 rfl rfl (by decide)⟩
    · exact ⟨by simp [World.cell?, h3, vol3], _, by simp [World.cell?, h3], rd_of_cells EP 67 (xs := [⟨15, sBill⟩]) h2 rfl rfl (by decide)⟩
  generalize ThirdPost w = PP at KEY ⊢
  go_enter Tryz.func25, Tryz.ntmps25
  go_wp2
  obtain ⟨k1, k2⟩ := KEY.out _ rfl
  refine bodyPost_ret (v := .tuple #[.agg #[.int .i64 3, .int .i64 50, .int .i64 3, .int .i64 10, .slice (some ⟨w.heap.size + 1 + 1 + 1, 0, none⟩) 2 2], .slice (some ⟨w.heap.size + 1 + 1 + 1 + 1, 0, none⟩) 3 3]) (by simp [results, Tryz.results25, go_sem]) rfl k1
end Go.Proofs.YtjkmdpejcgepkaaGreatDoor
