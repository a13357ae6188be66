/- Whether a volume is valid, but for its anchors being the same. -/
import Derived.Test.YtjkmdpejcgepkaaGreatDoorC4
namespace Go.Proofs.YtjkmdpejcgepkaaGreatDoor
open Go.RowKit
theorem q_same {P : Program} {f : FuncId} {args : Array Value} {w : World} {n : Nat} {v : Value}
    (h : Calls P f args (w.drewN n) fun e w' => e = .returned v ∧ w.drewN n = w') : Calls P f args (w.drewN n) fun e w'' => e = .returned v ∧ ∃ m, w'' = w.drewN m :=
  h.mono fun _ _ ⟨he, hm⟩ => ⟨he, n, hm.symm⟩
theorem _root_.Go.RowKit.Below.drewN {B : Nat} {a w : World} (h : Below B a w) (n : Nat) : Below B a (w.drewN n) := ⟨h.os, h.tape, h.output, h.size, h.block⟩
theorem PartsAt.day {w : World} {b off : Nat} {ps : List Part} (h : PartsAt w b off ps) (j : Nat) (hj : j < ps.length) : w.cell? ⟨b, off + j * 2, none⟩ = some (.int .i64 ps[j].day) := (h j hj).1
/-- the day of part j is right -/
def dayAt (bound : Int) (ps : List Part) (j : Nat) : Bool :=
  dayB (ps.getD j default).day && !(decide (bound < (ps.getD j default).day)) && (j == 0 || decide ((ps.getD (j - 1) default).day < (ps.getD j default).day))
def daysB (bound : Int) (ps : List Part) : Bool := (List.range ps.length).all (dayAt bound ps)
theorem daysB_no {bound : Int} {ps : List Part} {j : Nat} (hj : j < ps.length) (h : dayAt bound ps j = false) : daysB bound ps = false := by
  unfold daysB
  rw [List.all_eq_false]
  exact ⟨j, by simpa using hj, by simp [h]⟩
theorem daysB_yes {bound : Int} {ps : List Part} (h : ∀ j, j < ps.length → dayAt bound ps j = true) : daysB bound ps = true := by
  unfold daysB
  rw [List.all_eq_true]
  intro j hj
  exact h j (by simpa using hj)
def Vol.valid (x : Vol) : Bool := daysB x.bound x.parts && (withinB x.number 1 99 && dayB x.bound && withinB x.height 1 60 && withinB x.width 10 80 && x.paras.all Para.ok)
set_option maxHeartbeats 2000000 in
theorem valid_any (v : Value) (x : Vol) (w : World) (hv : IsVol w v x) (hs : x.small) : Calls Tryz.prog 48 #[v] w fun e w' => e = .returned (.bool x.valid) ∧ Below w.heap.size w w' := by
  obtain ⟨sv, rfl, A, c, rfl, hc, hm, hr⟩ := id hv
  obtain ⟨n0, n1, n2, n3, ps⟩ := x
  have hB1 : Below w.heap.size w (w.alloc (.cells #[.int .i64 n0, .int .i64 n1, .int .i64 n2, .int .i64 n3, .slice A ps.length c] 37)) := (Below.refl _ _).alloc (Nat.le_refl _) _
  have R : Hid ((Vol.mk n0 n1 n2 n3 ps).valid = (daysB n1 ps && (withinB n0 1 99 && dayB n1 && withinB n2 1 60 && withinB n3 10 80 && (Vol.mk n0 n1 n2 n3 ps).paras.all Para.ok))) := Lib.hid rfl
  dsimp only [Vol.val] at hc hm hr ⊢
  generalize (Vol.mk n0 n1 n2 n3 ps).valid = r at R ⊢
  have HV : Hid (IsVol w ((Vol.mk n0 n1 n2 n3 ps).val (.slice A ps.length c)) (Vol.mk n0 n1 n2 n3 ps) ∧ (Vol.mk n0 n1 n2 n3 ps).small) := Lib.hid ⟨hv, hs⟩
  clear hs hv
  go_enter Tryz.func48, Tryz.ntmps48
  go_wp2
  go_loopg [3, 4, 8] ps.length (fun gg s3 s4 s8 wr => ∃ kk : Nat, kk ≤ ps.length ∧ ps.length - kk ≤ gg ∧ s8 = .int .i64 kk ∧ Aside (Below w.heap.size w wr ∧ Below (w.heap.size + 1) (w.alloc (.cells #[.int .i64 n0, .int .i64 n1, .int .i64 n2, .int .i64 n3, .slice A ps.length c] 37)) wr ∧ ∀ j, j < kk → dayAt n1 ps j = true))
  case atStart => exact ⟨0, Nat.zero_le _, by omega, rfl, hB1, Below.refl _ _, fun j hj => absurd hj (Nat.not_lt_zero _)⟩
  case round =>
    obtain ⟨kk, hkk, hg, rfl, A1⟩ := hrel
    by_cases hlt : kk < ps.length
    · obtain ⟨b, off, rfl, hb, hr1⟩ := hr (by omega)
      clear hr HV
      have hP := hr1.below hb A1.out.1
      obtain ⟨d1, pv, d2, d3⟩ := hP kk hlt
      have hgd : Hid (ps.getD kk default = ps[kk]) := Lib.hid (by rw [List.getD_eq_getElem?_getD, List.getElem?_eq_getElem hlt]; rfl)
      obtain ⟨A2, c2, rfl, -⟩ := id d3
      clear d3
      have hBw := A1.out.2.1
      have hsz : w.heap.size + 1 ≤ wr.heap.size := by have h := hBw.size; rw [World.size_alloc] at h; exact h
      have hbw : b < wr.heap.size := by omega
      have hwlt : w.heap.size < wr.heap.size := by omega
      have hw1 : wr.cell? ⟨w.heap.size, 1, none⟩ = some (.int .i64 n1) := by
        rw [hBw.cell (p := ⟨w.heap.size, 1, none⟩) (by simp)]; simp [go_sem]
      have hw4 : wr.cell? ⟨w.heap.size, 4, none⟩ = some (.slice (some ⟨b, off, none⟩) ps.length c) := by
        rw [hBw.cell (p := ⟨w.heap.size, 4, none⟩) (by simp)]; simp [go_sem]
      clear hBw hB1
      have hF : Hid (∀ (W : World), Below wr.heap.size wr W → Below w.heap.size w W ∧ Below (w.heap.size + 1) (w.alloc (.cells #[.int .i64 n0, .int .i64 n1, .int .i64 n2, .int .i64 n3, .slice (some ⟨b, off, none⟩) ps.length c] 37)) W) :=
        Lib.hid fun W hW => ⟨A1.out.1.trans (hW.mono (by omega)), A1.out.2.1.trans (hW.mono (by omega))⟩
      have hD : Hid (dayAt n1 ps kk = (dayB ps[kk].day && !(decide (n1 < ps[kk].day)) && (kk == 0 || decide ((ps.getD (kk - 1) default).day < ps[kk].day)))) := Lib.hid (by unfold dayAt; rw [hgd.out])
      have hN : Hid (dayAt n1 ps kk = false → r = false) := Lib.hid fun h => by rw [R.out, daysB_no hlt h]; rfl
      have hY : Hid (dayAt n1 ps kk = true → ∀ j, j < kk + 1 → dayAt n1 ps j = true) := Lib.hid fun h j hj => by
        by_cases e : j = kk
        · rw [e]; exact h
        · exact A1.out.2.2 j (by omega)
      clear A1 R
      have hprev : 0 < kk → wr.cell? ⟨b, off + (kk - 1) * 2, none⟩ = some (.int .i64 (ps.getD (kk - 1) default).day) := fun h0 => by
        rw [hP.day (kk - 1) (by omega), List.getD_eq_getElem?_getD, List.getElem?_eq_getElem (by omega)]; rfl
      clear hP hr1
      generalize dayAt n1 ps kk = dk at hD hN hY
      generalize (ps.getD (kk - 1) default).day = pd at hD hprev
      generalize ps[kk].day = dd at hD d1
      generalize ps[kk].paras.length = m2 at d2
      have hin : Below wr.heap.size wr (wr.alloc (.cells #[.int .i64 dd, .slice A2 m2 c2] 79)) := (Below.refl _ _).alloc (Nat.le_refl _) _
      by_cases k0 : kk = 0
      · subst k0
        clear hprev
        simp only [Nat.zero_mul, Nat.add_zero] at d1 d2
        cases h1 : dayB dd
        · have HN := Lib.hid (hN.out (by rw [hD.out, h1]; rfl))
          go_wp2
          (go_quiet ((go_at_call 34; exact q_same (day_any _ _))))
          go_wp2
          go_ret
          exact ⟨ret_bool HN.out.symm, (hF.out _ (hin.drewN _)).1⟩
        by_cases h2 : n1 < dd
        · have HN := Lib.hid (hN.out (by rw [hD.out]; simp [h2]))
          have h2' : decide (n1 < dd) = true := by simpa using h2
          go_wp2
          (go_quiet ((go_at_call 34; exact q_same (day_any _ _))))
          go_wp2
          go_ret
          exact ⟨ret_bool HN.out.symm, (hF.out _ (hin.drewN _)).1⟩
        · have HY := Lib.hid (hY.out (by rw [hD.out]; simp [h1, h2]))
          have h2' : decide (n1 < dd) = false := by simpa using h2
          go_wp2
          (go_quiet ((go_at_call 34; exact q_same (day_any _ _))))
          go_wp2
          go_roundg (ps.length - (0 + 1))
          case measure => omega
          case rel => exact ⟨0 + 1, by omega, by omega, by go_num, (hF.out _ (hin.drewN _)).1, (hF.out _ (hin.drewN _)).2, HY.out⟩
      · have hp := hprev (by omega)
        have k0' : decide ((0 : Int) < (kk : Int)) = true := by simp; omega
        have k0n : decide (0 < kk) = true := by simp; omega
        have k1 : (0 : Int) ≤ (kk : Int) - 1 := by omega
        have k2 : (kk : Int) - 1 < (ps.length : Int) := by omega
        have k3 : ((kk : Int) - 1).toNat = kk - 1 := by omega
        clear hprev
        cases h1 : dayB dd
        · have HN := Lib.hid (hN.out (by rw [hD.out, h1]; rfl))
          go_wp2
          (go_quiet ((go_at_call 34; exact q_same (day_any _ _))))
          go_wp2
          go_ret
          exact ⟨ret_bool HN.out.symm, (hF.out _ (hin.drewN _)).1⟩
        by_cases h2 : n1 < dd
        · have HN := Lib.hid (hN.out (by rw [hD.out]; simp [h2]))
          have h2' : decide (n1 < dd) = true := by simpa using h2
          go_wp2
          (go_quiet ((go_at_call 34; exact q_same (day_any _ _))))
          go_wp2
          go_ret
          exact ⟨ret_bool HN.out.symm, (hF.out _ (hin.drewN _)).1⟩
        have h2' : decide (n1 < dd) = false := by simpa using h2
        by_cases h3 : dd ≤ pd
        · have HN := Lib.hid (hN.out (by rw [hD.out]; simp [k0]; omega))
          have h3' : decide (dd ≤ pd) = true := by simpa using h3
          go_wp2
          (go_quiet ((go_at_call 34; exact q_same (day_any _ _))))
          go_wp2
          go_ret
          exact ⟨ret_bool HN.out.symm, (hF.out _ (hin.drewN _)).1⟩
        · have HY := Lib.hid (hY.out (by rw [hD.out]; simp [h1, h2, k0]; omega))
          have h3' : decide (dd ≤ pd) = false := by simpa using h3
          go_wp2
          (go_quiet ((go_at_call 34; exact q_same (day_any _ _))))
          go_wp2
          go_roundg (ps.length - (kk + 1))
          case measure => omega
          case rel => exact ⟨kk + 1, by omega, by omega, by go_num, (hF.out _ (hin.drewN _)).1, (hF.out _ (hin.drewN _)).2, HY.out⟩
    · have : kk = ps.length := by omega
      subst this
      have hd : daysB n1 ps = true := daysB_yes A1.out.2.2
      have hBw := A1.out.2.1
      have hBW := A1.out.1
      have hIV := HV.out.1.below hBW
      have hsm := HV.out.2
      clear hB1 A1 HV hr
      have hsz : w.heap.size < wr.heap.size := by have h := hBw.size; rw [World.size_alloc] at h; omega
      have c0 : wr.cell? ⟨w.heap.size, 0, none⟩ = some (.int .i64 n0) := by rw [hBw.cell (p := ⟨w.heap.size, 0, none⟩) (by simp)]; simp [go_sem]
      have c1 : wr.cell? ⟨w.heap.size, 1, none⟩ = some (.int .i64 n1) := by rw [hBw.cell (p := ⟨w.heap.size, 1, none⟩) (by simp)]; simp [go_sem]
      have c2 : wr.cell? ⟨w.heap.size, 2, none⟩ = some (.int .i64 n2) := by rw [hBw.cell (p := ⟨w.heap.size, 2, none⟩) (by simp)]; simp [go_sem]
      have c3 : wr.cell? ⟨w.heap.size, 3, none⟩ = some (.int .i64 n3) := by rw [hBw.cell (p := ⟨w.heap.size, 3, none⟩) (by simp)]; simp [go_sem]
      have c4 : wr.cell? ⟨w.heap.size, 4, none⟩ = some (.slice A ps.length c) := by rw [hBw.cell (p := ⟨w.heap.size, 4, none⟩) (by simp)]; simp [go_sem]
      clear hBw
      have R1 : Hid (r = (withinB n0 1 99 && dayB n1 && withinB n2 1 60 && withinB n3 10 80 && (Vol.mk n0 n1 n2 n3 ps).paras.all Para.ok)) := Lib.hid (by rw [R.out, hd]; rfl)
      have HB : Hid (Below w.heap.size w wr) := Lib.hid hBW
      have hfit : Hid (∀ y ∈ (Vol.mk n0 n1 n2 n3 ps).paras, y.fits) := Lib.hid fun y hy => by
        obtain ⟨q, hq, hy'⟩ := List.mem_flatMap.1 hy
        have := (hsm.2 q hq).2 y hy'
        unfold Para.fits; omega
      have hpar := paragraphs_any _ _ _ hIV hsm
      clear R hd hBW hIV hsm
      generalize (Vol.mk n0 n1 n2 n3 ps).paras = l at R1 hfit hpar
      dsimp only [Vol.val] at hpar
      cases h0 : withinB n0 1 99
      · have HN := Lib.hid (show r = false by rw [R1.out, h0]; rfl)
        clear R1 hpar
        go_wp2_with (first | (go_at_call 40; refine (within_any _ _ _ _).mono ?_; rintro e w' ⟨rfl, rfl⟩) | (go_at_call 34; refine (day_any _ _).mono ?_; rintro e w' ⟨rfl, rfl⟩))
        go_ret
        exact ⟨ret_bool HN.out.symm, HB.out⟩
      cases h1 : dayB n1
      · have HN := Lib.hid (show r = false by rw [R1.out, h1]; simp)
        clear R1 hpar
        go_wp2_with (first | (go_at_call 40; refine (within_any _ _ _ _).mono ?_; rintro e w' ⟨rfl, rfl⟩) | (go_at_call 34; refine (day_any _ _).mono ?_; rintro e w' ⟨rfl, rfl⟩))
        go_ret
        exact ⟨ret_bool HN.out.symm, HB.out⟩
      cases h2 : withinB n2 1 60
      · have HN := Lib.hid (show r = false by rw [R1.out, h2]; simp)
        clear R1 hpar
        go_wp2_with (first | (go_at_call 40; refine (within_any _ _ _ _).mono ?_; rintro e w' ⟨rfl, rfl⟩) | (go_at_call 34; refine (day_any _ _).mono ?_; rintro e w' ⟨rfl, rfl⟩))
        go_ret
        exact ⟨ret_bool HN.out.symm, HB.out⟩
      cases h3 : withinB n3 10 80
      · have HN := Lib.hid (show r = false by rw [R1.out, h3]; simp)
        clear R1 hpar
        go_wp2_with (first | (go_at_call 40; refine (within_any _ _ _ _).mono ?_; rintro e w' ⟨rfl, rfl⟩) | (go_at_call 34; refine (day_any _ _).mono ?_; rintro e w' ⟨rfl, rfl⟩))
        go_ret
        exact ⟨ret_bool HN.out.symm, HB.out⟩
      have HN := Lib.hid (show r = l.all Para.ok by rw [R1.out, h0, h1, h2, h3]; rfl)
      clear R1
      go_wp2_with (first | (first | (go_at_call 40; refine (within_any _ _ _ _).mono ?_; rintro e w' ⟨rfl, rfl⟩) | (go_at_call 34; refine (day_any _ _).mono ?_; rintro e w' ⟨rfl, rfl⟩)) | (go_at_call 47; refine hpar.mono ?_; rintro e w' ⟨pv, rfl, hO, hb⟩))
      refine (all_para l pv 68 #[] Para.fits Para.ok _ hO.rd hfit.out (enters_of Tryz.func68 (by kernel_rfl) rfl) (valid1_pred _)).mono ?_
      rintro e w2 ⟨rfl, hb2⟩
      go_wp2
      go_ret
      exact ⟨ret_bool HN.out.symm, (HB.out.go hb).go hb2⟩
end Go.Proofs.YtjkmdpejcgepkaaGreatDoor
