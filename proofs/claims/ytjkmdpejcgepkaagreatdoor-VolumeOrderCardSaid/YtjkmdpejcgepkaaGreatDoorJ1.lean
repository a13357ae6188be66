/- same: two lists of errata compared. -/
import Derived.Test.YtjkmdpejcgepkaaGreatDoorEA
namespace Go.Proofs.YtjkmdpejcgepkaaGreatDoor
open Go.RowKit
set_option maxHeartbeats 4000000 in
set_option maxRecDepth 100000 in
theorem samecmp_any (v1 v2 : Value) (xs ys : List Err) (w : World) (h1 : Rd EE.f EE.k w v1 xs) (h2 : Rd EE.f EE.k w v2 ys) : Calls Tryz.prog 30 #[v1, v2] w (CmpPost w (xs = ys)) := by
  obtain ⟨A1, c1, rfl, hc1, hm1, hr1⟩ := h1
  obtain ⟨A2, c2, rfl, hc2, hm2, hr2⟩ := h2
  by_cases hl : xs.length = ys.length
  case neg =>
    have hd : Hid (xs ≠ ys) := Lib.hid fun h => hl (by rw [h])
    clear hr1 hr2 hc1 hc2
    have hn : ((xs.length : Int) == (ys.length : Int)) = false := by simp; omega
    go_enter Tryz.func30, Tryz.ntmps30
    go_wp2
    go_ret
    exact ⟨_, rfl, by simpa using hd.out, Below.refl _ _⟩
  case pos =>
    have hn : ((xs.length : Int) == (ys.length : Int)) = true := by simp; omega
    have HQ : Hid (∀ w', Below w.heap.size w w' → xs = ys → CmpPost w (xs = ys) (.returned (.bool true)) w') := Lib.hid fun w' h e => ⟨_, rfl, by simp [e], h⟩
    have HN : Hid (∀ w', Below w.heap.size w w' → xs ≠ ys → CmpPost w (xs = ys) (.returned (.bool false)) w') := Lib.hid fun w' h e => ⟨_, rfl, by simp [e], h⟩
    generalize CmpPost w (xs = ys) = PP at HQ HN ⊢
    go_enter Tryz.func30, Tryz.ntmps30
    go_wp2
    go_loopg [5] xs.length (fun gg s5 wr => ∃ kk : Nat, kk ≤ xs.length ∧ xs.length - kk ≤ gg ∧ s5 = .int .i64 kk ∧ Aside (xs.take kk = ys.take kk ∧ Below w.heap.size w wr))
    case atStart => exact ⟨0, Nat.zero_le _, by omega, rfl, rfl, Below.refl _ _⟩
    case round =>
      obtain ⟨kk, hkk, hg, rfl, A3⟩ := hrel
      by_cases hlt : kk < xs.length
      · obtain ⟨b1, o1, rfl, hb1, hw1⟩ := hr1 (by omega)
        obtain ⟨b2, o2, rfl, hb2, hw2⟩ := hr2 (by omega)
        have hlt2 : kk < ys.length := by omega
        obtain ⟨z0, z1, z2, z3, z4, z5⟩ := err_cells hw1 kk hlt
        obtain ⟨y0, y1, y2, y3, y4, y5⟩ := err_cells hw2 kk hlt2
        rw [← A3.out.2.cell (p := ⟨b1, _, none⟩) hb1] at z0 z1 z2 z3 z4 z5
        rw [← A3.out.2.cell (p := ⟨b2, _, none⟩) hb2] at y0 y1 y2 y3 y4 y5
        have TS := Lib.hid (take_eq_succ xs ys kk hlt hlt2 A3.out.1)
        have NE := Lib.hid (ne_of_get xs ys kk hlt hlt2)
        clear hw1 hw2 hr1 hr2
        generalize xs[kk] = x at z0 z1 z2 z3 z4 z5 TS NE
        generalize ys[kk] = y at y0 y1 y2 y3 y4 y5 TS NE
        obtain ⟨a0, a1, a2, a3, a4, a5⟩ := x
        obtain ⟨q0, q1, q2, q3, q4, q5⟩ := y
        dsimp only at z0 z1 z2 z3 z4 z5 y0 y1 y2 y3 y4 y5
        have i1 : (0 : Int) ≤ ↑kk := by omega
        have i2 : (kk : Int) < (xs.length : Int) := by omega
        have i3 : (kk : Int) < (ys.length : Int) := by omega
        have HB := Lib.hid A3.out.2
        clear A3
        by_cases f0 : a0 = q0
        case neg =>
          have NE2 := Lib.hid (HN.out _ HB.out.drew (NE.out (fun h => f0 (by injection h)))); clear TS NE HN HQ
          go_wp2
          go_region
          go_wp2
          exact NE2.out
        case pos =>
          by_cases f1 : a1 = q1
          case neg =>
            have NE2 := Lib.hid (HN.out _ HB.out.drew (NE.out (fun h => f1 (by injection h)))); clear TS NE HN HQ
            go_wp2
            go_region
            go_wp2
            exact NE2.out
          case pos =>
            by_cases f2 : a2 = q2
            case neg =>
              have NE2 := Lib.hid (HN.out _ HB.out.drew (NE.out (fun h => f2 (by injection h)))); clear TS NE HN HQ
              go_wp2
              go_region
              go_wp2
              exact NE2.out
            case pos =>
              by_cases f3 : a3 = q3
              case neg =>
                have NE2 := Lib.hid (HN.out _ HB.out.drew (NE.out (fun h => f3 (by injection h)))); clear TS NE HN HQ
                go_wp2
                go_region
                go_wp2
                exact NE2.out
              case pos =>
                by_cases f4 : a4.toList = q4.toList
                case neg =>
                  have NE2 := Lib.hid (HN.out _ HB.out.drew (NE.out (fun h => f4 (by rw [(Err.mk.inj h).2.2.2.2.1])))); clear TS NE HN HQ
                  go_wp2
                  go_region
                  go_wp2
                  exact NE2.out
                case pos =>
                  by_cases f5 : a5 = q5
                  case neg =>
                    have NE2 := Lib.hid (HN.out _ HB.out.drew (NE.out (fun h => f5 (by injection h)))); clear TS NE HN HQ
                    go_wp2
                    go_region
                    go_wp2
                    exact NE2.out
                  case pos =>
                    have TS2 := Lib.hid (TS.out (by rw [f0, f1, f2, f3, ba_inj f4, f5])); clear TS NE
                    go_wp2
                    go_region
                    go_wp2
                    go_roundg (xs.length - (kk + 1))
                    case measure => exact measU hg hlt
                    case rel => exact ⟨kk + 1, hlt, Nat.le_refl _, by go_num, TS2.out, HB.out.drew⟩
      · have : kk = xs.length := Nat.le_antisymm hkk (Nat.le_of_not_lt hlt)
        subst this
        have hx := A3.out.1
        rw [List.take_length, hl, List.take_length] at hx
        have Q2 := Lib.hid (HQ.out wr A3.out.2 hx)
        clear hr1 hr2 A3 HN HQ hx
        go_wp2
        exact Q2.out
end Go.Proofs.YtjkmdpejcgepkaaGreatDoor
