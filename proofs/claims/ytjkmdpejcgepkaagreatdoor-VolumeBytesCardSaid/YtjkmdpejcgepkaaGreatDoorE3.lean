/- The reference's error of a volume. -/
import Derived.Test.YtjkmdpejcgepkaaGreatDoorE1
import Derived.IntWalk
namespace Go.Proofs.YtjkmdpejcgepkaaGreatDoor
open Go.RowKit
def rdayAt (bound : Int) (ps : List Part) (j : Nat) : Bool := withinB (ps.getD j default).day 0 bound && (j == 0 || decide ((ps.getD (j - 1) default).day < (ps.getD j default).day))
theorem fault_fin {n0 n1 n2 n3 : Int} {ps : List Part} (h1 : ¬ 6 < ps.length) (h2 : ¬ 30 < (Vol.mk n0 n1 n2 n3 ps).paras.length) (h3 : withinB n0 1 99 = true) (h4 : withinB n1 0 99999 = true) (h5 : withinB n2 1 60 = true) (h6 : withinB n3 10 80 = true)
    (h7 : ∀ j, j < ps.length → rdayAt n1 ps j = true) (h8 : ∀ j (_ : j < (Vol.mk n0 n1 n2 n3 ps).paras.length), (Vol.mk n0 n1 n2 n3 ps).paras[j].ok = true) (h9 : (ancs (Vol.mk n0 n1 n2 n3 ps).paras).Nodup) : checkVol (Vol.mk n0 n1 n2 n3 ps) = 0 := by
  have hv : (Vol.mk n0 n1 n2 n3 ps).valid = true := by
    unfold Vol.valid
    have e1 : daysB n1 ps = true := daysB_yes fun j hj => by
      have := h7 j hj
      unfold rdayAt withinB at this
      unfold withinB at h4
      unfold dayAt dayB withinB
      simp only [Bool.and_eq_true, decide_eq_true_eq] at this h4
      simp only [Bool.and_eq_true, decide_eq_true_eq, Bool.not_eq_true', decide_eq_false_iff_not]
      exact ⟨⟨by omega, by omega⟩, this.2⟩
    have e2 : (Vol.mk n0 n1 n2 n3 ps).paras.all Para.ok = true := by
      rw [List.all_eq_true]
      intro p hp
      obtain ⟨j, hj, rfl⟩ := List.mem_iff_getElem.1 hp
      exact h8 j hj
    simp only [e1, h3, h5, h6, e2, dayB, h4, Bool.and_self]
  unfold checkVol
  rw [if_neg (by rintro (h | h); exact h1 h; exact h2 h), if_neg (by rw [hv]; decide), if_pos h9]
theorem nodup_pairs {l : List Para} (h : ∀ i (_ : i < l.length), ∀ j (_ : j < l.length), j < i → l[j].anchor ≠ l[i].anchor) : (ancs l).Nodup := by
  unfold ancs
  rw [List.Nodup, List.pairwise_iff_getElem]
  intro i j hi hj hij
  simp only [List.getElem_map]
  rw [List.length_map] at hi hj
  exact h j hj i hi hij
theorem measU {n k g : Nat} (h : n - k ≤ g) (hl : k < n) : n - (k + 1) < g := by omega
def FaultPost (w : World) (x : Vol) (e : Ending) (w' : World) : Prop := (∃ n : Int, e = .returned (.int .i64 n) ∧ (n = 0 → checkVol x = 0)) ∧ Below w.heap.size w w'
theorem rq_same {f : FuncId} {args : Array Value} {w : World} {n : Nat} {v : Value}
    (h : Calls Tryz.prog f args (w.drewN n) fun e w' => e = .returned v ∧ w.drewN n = w') : Calls Tryz.prog f args (w.drewN n) fun e w'' => e = .returned v ∧ ∃ m, w'' = w.drewN m :=
  h.mono fun _ _ ⟨he, hm⟩ => ⟨he, n, hm.symm⟩
set_option maxHeartbeats 8000000 in
set_option maxRecDepth 100000 in
theorem rfault_any (v : Value) (x : Vol) (w : World) (hv : IsVol w v x) (hs : x.small) (htx : ∀ p ∈ x.paras, p.text.size ≤ 1000000) : Calls Tryz.prog 50 #[v] w (FaultPost w x) := by
  obtain ⟨sv, rfl, A, c, rfl, hc, hm, hr⟩ := id hv
  have hpl : x.paras.length ≤ 100000 := by
    have := take_paras_le x.parts x.parts.length hs.1 (fun p hp => (hs.2 p hp).1)
    rwa [List.take_length] at this
  have hall : ∀ W, Below w.heap.size w W → Calls Tryz.prog 71 #[x.val (.slice A x.parts.length c)] W (RParasPost W x.paras) := fun W hW => rall_any _ x W (hv.below hW) hs
  have hl := hs.1
  have HTX := Lib.hid htx
  clear hv hs htx
  obtain ⟨n0, n1, n2, n3, ps⟩ := x
  have HF := Lib.hid (@fault_fin n0 n1 n2 n3 ps)
  have HP : ∃ P : World → Prop, P = fun w' => (FaultPost w (Vol.mk n0 n1 n2 n3 ps) (.returned (.int .i64 0)) w') := ⟨_, rfl⟩
  clear HP
  have HBAD : Hid (∀ (n : Int) w', n ≠ 0 → Below w.heap.size w w' → FaultPost w (Vol.mk n0 n1 n2 n3 ps) (.returned (.int .i64 n)) w') := Lib.hid fun n w' h1 h2 => ⟨⟨n, rfl, fun h => absurd h h1⟩, h2⟩
  have HGOOD : Hid (∀ w', checkVol (Vol.mk n0 n1 n2 n3 ps) = 0 → Below w.heap.size w w' → FaultPost w (Vol.mk n0 n1 n2 n3 ps) (.returned (.int .i64 0)) w') := Lib.hid fun w' h1 h2 => ⟨⟨0, rfl, fun _ => h1⟩, h2⟩
  dsimp only [Vol.val] at hall hc hm hl ⊢
  generalize checkVol (Vol.mk n0 n1 n2 n3 ps) = ck at HF HGOOD
  generalize FaultPost w (Vol.mk n0 n1 n2 n3 ps) = PP at HBAD HGOOD ⊢
  generalize (Vol.mk n0 n1 n2 n3 ps).paras = l at hall hpl HF HTX
  have hB1 : Below w.heap.size w (w.alloc (.cells #[.int .i64 n0, .int .i64 n1, .int .i64 n2, .int .i64 n3, .slice A ps.length c] 24)) := (Below.refl _ _).alloc (Nat.le_refl _) _
  have hall1 := hall _ hB1
  clear hall
  have hvc : Hid (∀ W, Below (w.alloc (.cells #[.int .i64 n0, .int .i64 n1, .int .i64 n2, .int .i64 n3, .slice A ps.length c] 24)).heap.size (w.alloc (.cells #[.int .i64 n0, .int .i64 n1, .int .i64 n2, .int .i64 n3, .slice A ps.length c] 24)) W →
      w.heap.size < W.heap.size ∧ W.cell? ⟨w.heap.size, 0, none⟩ = some (.int .i64 n0) ∧ W.cell? ⟨w.heap.size, 1, none⟩ = some (.int .i64 n1) ∧ W.cell? ⟨w.heap.size, 2, none⟩ = some (.int .i64 n2) ∧ W.cell? ⟨w.heap.size, 3, none⟩ = some (.int .i64 n3) ∧ W.cell? ⟨w.heap.size, 4, none⟩ = some (.slice A ps.length c)) := Lib.hid fun W h3 => by
    have hz := h3.size
    rw [World.size_alloc] at hz h3
    refine ⟨hz, ?_, ?_, ?_, ?_, ?_⟩ <;> (rw [h3.cell (p := ⟨w.heap.size, _, none⟩) (Nat.lt_succ_self _)]; simp [go_sem])
  by_cases h6 : 6 < ps.length
  · have h6' : decide ((6 : Int) < (ps.length : Int)) = true := by simp; omega
    go_enter Tryz.func50, Tryz.ntmps50
    go_wp2_with (first | (go_at_call 71; refine hall1.mono ?_; rintro e w2 ⟨pv, rfl, hO, hb2⟩; obtain ⟨x0, x1, x2, x3, x4, x5⟩ := hvc.out w2 hb2; obtain ⟨A1, c1, rfl, hc1, hm1, hro⟩ := id hO.rd) | (go_at_call 72; refine (rin_any _ _ _ _).mono ?_; rintro e w' ⟨rfl, rfl⟩))
    exact HBAD.out 3 _ (by decide) (hB1.go hb2)
  have h6' : decide ((6 : Int) < (ps.length : Int)) = false := by simp; omega
  have h6n : decide (6 < ps.length) = false := by simp; omega
  by_cases h30 : 30 < l.length
  · have h30' : decide ((30 : Int) < (l.length : Int)) = true := by simp; omega
    go_enter Tryz.func50, Tryz.ntmps50
    go_wp2_with (first | (go_at_call 71; refine hall1.mono ?_; rintro e w2 ⟨pv, rfl, hO, hb2⟩; obtain ⟨x0, x1, x2, x3, x4, x5⟩ := hvc.out w2 hb2; obtain ⟨A1, c1, rfl, hc1, hm1, hro⟩ := id hO.rd) | (go_at_call 72; refine (rin_any _ _ _ _).mono ?_; rintro e w' ⟨rfl, rfl⟩))
    exact HBAD.out 3 _ (by decide) (hB1.go hb2)
  have h30' : decide ((30 : Int) < (l.length : Int)) = false := by simp; omega
  have h30n : decide (30 < l.length) = false := by simp; omega
  cases i0 : withinB n0 1 99
  · go_enter Tryz.func50, Tryz.ntmps50
    go_wp2_with (first | (go_at_call 71; refine hall1.mono ?_; rintro e w2 ⟨pv, rfl, hO, hb2⟩; obtain ⟨x0, x1, x2, x3, x4, x5⟩ := hvc.out w2 hb2; obtain ⟨A1, c1, rfl, hc1, hm1, hro⟩ := id hO.rd) | (go_at_call 72; refine (rin_any _ _ _ _).mono ?_; rintro e w' ⟨rfl, rfl⟩))
    exact HBAD.out 1 _ (by decide) (hB1.go hb2)
  cases i1 : withinB n1 0 99999
  · go_enter Tryz.func50, Tryz.ntmps50
    go_wp2_with (first | (go_at_call 71; refine hall1.mono ?_; rintro e w2 ⟨pv, rfl, hO, hb2⟩; obtain ⟨x0, x1, x2, x3, x4, x5⟩ := hvc.out w2 hb2; obtain ⟨A1, c1, rfl, hc1, hm1, hro⟩ := id hO.rd) | (go_at_call 72; refine (rin_any _ _ _ _).mono ?_; rintro e w' ⟨rfl, rfl⟩))
    exact HBAD.out 1 _ (by decide) (hB1.go hb2)
  cases i2 : withinB n2 1 60
  · go_enter Tryz.func50, Tryz.ntmps50
    go_wp2_with (first | (go_at_call 71; refine hall1.mono ?_; rintro e w2 ⟨pv, rfl, hO, hb2⟩; obtain ⟨x0, x1, x2, x3, x4, x5⟩ := hvc.out w2 hb2; obtain ⟨A1, c1, rfl, hc1, hm1, hro⟩ := id hO.rd) | (go_at_call 72; refine (rin_any _ _ _ _).mono ?_; rintro e w' ⟨rfl, rfl⟩))
    exact HBAD.out 1 _ (by decide) (hB1.go hb2)
  cases i3 : withinB n3 10 80
  · go_enter Tryz.func50, Tryz.ntmps50
    go_wp2_with (first | (go_at_call 71; refine hall1.mono ?_; rintro e w2 ⟨pv, rfl, hO, hb2⟩; obtain ⟨x0, x1, x2, x3, x4, x5⟩ := hvc.out w2 hb2; obtain ⟨A1, c1, rfl, hc1, hm1, hro⟩ := id hO.rd) | (go_at_call 72; refine (rin_any _ _ _ _).mono ?_; rintro e w' ⟨rfl, rfl⟩))
    exact HBAD.out 1 _ (by decide) (hB1.go hb2)
  have HF2 := Lib.hid (HF.out h6 h30 i0 i1 i2 i3)
  clear HF
  go_enter Tryz.func50, Tryz.ntmps50
  go_wp2_with (first | (go_at_call 71; refine hall1.mono ?_; rintro e w2 ⟨pv, rfl, hO, hb2⟩; obtain ⟨x0, x1, x2, x3, x4, x5⟩ := hvc.out w2 hb2; obtain ⟨A1, c1, rfl, hc1, hm1, hro⟩ := id hO.rd) | (go_at_call 72; refine (rin_any _ _ _ _).mono ?_; rintro e w' ⟨rfl, rfl⟩))
  have HB2 := Lib.hid (hB1.go hb2)
  have hR2 := Lib.hid hO.rd
  have hvd : Hid (∀ W, Below w2.heap.size w2 W → w.heap.size < W.heap.size ∧ W.cell? ⟨w.heap.size, 1, none⟩ = some (.int .i64 n1) ∧ W.cell? ⟨w.heap.size, 4, none⟩ = some (.slice A ps.length c)) := Lib.hid fun W hW => by
    have := hW.size
    exact ⟨by omega, (hW.cell (p := ⟨w.heap.size, 1, none⟩) x0).trans x2, (hW.cell (p := ⟨w.heap.size, 4, none⟩) x0).trans x5⟩
  have hlw : w.heap.size ≤ w2.heap.size := HB2.out.size
  clear hall1 hb2 x0 x1 x2 x3 x4 x5 hO hvc hB1 hro h6' h6n h30' h30n i0 i1 i2 i3
  go_loopg [4] ps.length (fun gg s4 wr => ∃ kk : Nat, kk ≤ ps.length ∧ ps.length - kk ≤ gg ∧ s4 = .int .i64 kk ∧ Aside ((∀ j, j < kk → rdayAt n1 ps j = true) ∧ Below w2.heap.size w2 wr))
  case atStart => exact ⟨0, Nat.zero_le _, by omega, rfl, fun j h => absurd h (Nat.not_lt_zero _), Below.refl _ _⟩
  case round =>
    obtain ⟨kk, hkk, hg, rfl, A2⟩ := hrel
    have hBw := A2.out.2
    have HDY := Lib.hid A2.out.1
    obtain ⟨q0, q1, q2⟩ := hvd.out wr hBw
    have hz := hBw.size
    have HBw := Lib.hid hBw
    by_cases hlt : kk < ps.length
    · obtain ⟨b, off, rfl, hb, hr1⟩ := hr (by omega)
      clear hr
      have hP := hr1.below hb (HB2.out.go hBw)
      have d1 := hP.day kk hlt
      have hbW : b < wr.heap.size := by omega
      have hgd : Hid (ps.getD kk default = ps[kk]) := Lib.hid (by rw [List.getD_eq_getElem?_getD, List.getElem?_eq_getElem hlt]; rfl)
      have hD : Hid (rdayAt n1 ps kk = (withinB ps[kk].day 0 n1 && (kk == 0 || decide ((ps.getD (kk - 1) default).day < ps[kk].day)))) := Lib.hid (by unfold rdayAt; rw [hgd.out])
      have hY : Hid (rdayAt n1 ps kk = true → ∀ j, j < kk + 1 → rdayAt n1 ps j = true) := Lib.hid fun h j hj => by
        by_cases e : j = kk
        · rw [e]; exact h
        · exact HDY.out j (by omega)
      have hprev : 0 < kk → wr.cell? ⟨b, off + (kk - 1) * 2, none⟩ = some (.int .i64 (ps.getD (kk - 1) default).day) := fun h0 => by
        rw [hP.day (kk - 1) (by omega), List.getD_eq_getElem?_getD, List.getElem?_eq_getElem (by omega)]; rfl
      clear hP hr1 A2 hgd HDY hBw
      generalize rdayAt n1 ps kk = dk at hD hY
      generalize (ps.getD (kk - 1) default).day = pd at hD hprev
      generalize ps[kk].day = dd at hD d1
      cases h1 : withinB dd 0 n1
      · by_cases k0 : kk = 0
        · subst k0
          clear hprev
          simp only [Nat.zero_mul, Nat.add_zero] at d1
          go_wp2
          (go_quiet ((go_at_call 72; exact rq_same (rin_any _ _ _ _))))
          go_wp2
          exact HBAD.out 1 _ (by decide) ((HB2.out.go HBw.out).drewN _)
        · clear hprev
          go_wp2
          (go_quiet ((go_at_call 72; exact rq_same (rin_any _ _ _ _))))
          go_wp2
          exact HBAD.out 1 _ (by decide) ((HB2.out.go HBw.out).drewN _)
      by_cases k0 : kk = 0
      · subst k0
        clear hprev
        have HY := Lib.hid (hY.out (by rw [hD.out, h1]; rfl))
        simp only [Nat.zero_mul, Nat.add_zero] at d1
        go_wp2
        (go_quiet ((go_at_call 72; exact rq_same (rin_any _ _ _ _))))
        go_wp2
        go_roundg (ps.length - (0 + 1))
        case measure => exact measU hg hlt
        case rel => exact ⟨0 + 1, hlt, Nat.le_refl _, by go_num, HY.out, HBw.out.drewN _⟩
      · have hp := hprev (by omega)
        have k0' : decide ((0 : Int) < (kk : Int)) = true := by simp; omega
        have k0n : decide (0 < kk) = true := by simp; omega
        have k1 : (0 : Int) ≤ (kk : Int) - 1 := by omega
        have k2 : (kk : Int) - 1 < (ps.length : Int) := by omega
        have k3 : ((kk : Int) - 1).toNat = kk - 1 := by omega
        clear hprev
        by_cases h3 : dd ≤ pd
        · have h3' : decide (dd ≤ pd) = true := by simpa using h3
          go_wp2
          (go_quiet ((go_at_call 72; exact rq_same (rin_any _ _ _ _))))
          go_wp2
          exact HBAD.out 1 _ (by decide) ((HB2.out.go HBw.out).drewN _)
        · have HY := Lib.hid (hY.out (by rw [hD.out]; simp [h1, k0]; omega))
          have h3' : decide (dd ≤ pd) = false := by simpa using h3
          go_wp2
          (go_quiet ((go_at_call 72; exact rq_same (rin_any _ _ _ _))))
          go_wp2
          go_roundg (ps.length - (kk + 1))
          case measure => exact measU hg hlt
          case rel => exact ⟨kk + 1, hlt, Nat.le_refl _, by go_num, HY.out, HBw.out.drewN _⟩
    · have : kk = ps.length := by omega
      subst this
      have HF3 := Lib.hid (HF2.out HDY.out)
      clear A2 hr hBw HF2 HDY hlt hg hkk
      go_wp2
      rename World => wo1
      have HBo := Lib.hid HBw.out
      clear HBw
      go_loopg [5] l.length (fun gg s5 wr => ∃ kk : Nat, kk ≤ l.length ∧ l.length - kk ≤ gg ∧ s5 = .int .i64 kk ∧ Aside ((∀ j (_ : j < l.length), j < kk → l[j].ok = true) ∧ Below w2.heap.size w2 wr))
      case atStart => exact ⟨0, Nat.zero_le _, by omega, rfl, fun j _ h => absurd h (Nat.not_lt_zero _), HBo.out⟩
      case round =>
        obtain ⟨kk, hkk, hg, rfl, A2⟩ := hrel
        have hBw := A2.out.2
        have HOK := Lib.hid A2.out.1
        have HBw := Lib.hid hBw
        by_cases hlt : kk < l.length
        · obtain ⟨A3, c3, e3, _, _, hr3⟩ := hR2.out.below hBw
          obtain ⟨b, off, rfl, hbl, hrow⟩ := hr3 (by omega)
          simp only [Value.slice.injEq] at e3
          obtain ⟨rfl, -, rfl⟩ := e3
          clear hr3
          have hc' := hrow kk hlt
          have htx := HTX.out _ (List.getElem_mem hlt)
          have HO2 : Hid (l[kk].ok = true → ∀ j (_ : j < l.length), j < kk + 1 → l[j].ok = true) := Lib.hid fun h j hj hjk => by
            by_cases e : j = kk
            · subst e; exact h
            · exact HOK.out j hj (by omega)
          have HOD : Hid (l[kk].ok = (withinB l[kk].anchor 1 999 && textB l[kk].text)) := Lib.hid rfl
          clear A2 hrow hBw HOK
          generalize l[kk].ok = okk at HO2 HOD
          generalize l[kk] = y at hc' htx HOD
          obtain ⟨ya, yt⟩ := y
          dsimp only at htx HOD
          have c0 := hc' 0 _ rfl; have c1' := hc' 1 _ rfl
          clear hc'
          simp only [Nat.add_zero, show EP.k = 2 from rfl] at c0 c1'
          have i1 : (0 : Int) ≤ ↑kk := by omega
          have i2 : (kk : Int) < (l.length : Int) := by omega
          cases h1 : withinB ya 1 999
          · go_wp2_with (first | (go_at_call 72; refine (rin_any _ _ _ _).mono ?_; rintro e w' ⟨rfl, rfl⟩) | (go_at_call 73; refine (rtext_any _ _ htx).mono ?_; rintro e w' ⟨rfl, rfl⟩))
            exact HBAD.out 1 _ (by decide) (HB2.out.go HBw.out)
          cases h2 : textB yt
          · go_wp2_with (first | (go_at_call 72; refine (rin_any _ _ _ _).mono ?_; rintro e w' ⟨rfl, rfl⟩) | (go_at_call 73; refine (rtext_any _ _ htx).mono ?_; rintro e w' ⟨rfl, rfl⟩))
            exact HBAD.out 1 _ (by decide) (HB2.out.go HBw.out)
          have HY := Lib.hid (HO2.out (by rw [HOD.out, h1, h2]; rfl))
          clear HO2 HOD
          go_wp2_with (first | (go_at_call 72; refine (rin_any _ _ _ _).mono ?_; rintro e w' ⟨rfl, rfl⟩) | (go_at_call 73; refine (rtext_any _ _ htx).mono ?_; rintro e w' ⟨rfl, rfl⟩))
          go_roundg (l.length - (kk + 1))
          case measure => exact measU hg hlt
          case rel => exact ⟨kk + 1, hlt, Nat.le_refl _, by go_num, HY.out, HBw.out⟩
        · have : kk = l.length := by omega
          subst this
          have HF4 := Lib.hid (HF3.out (fun j hj => HOK.out j hj hj))
          clear A2 hBw HF3 HOK hlt hg hkk HBo
          go_wp2
          rename World => wo2
          have HBo := Lib.hid HBw.out
          clear HBw
          go_loopg [6, 7] l.length (fun gg s6 s7 wr => ∃ kk : Nat, kk ≤ l.length ∧ l.length - kk ≤ gg ∧ s6 = .int .i64 kk ∧ Aside ((∀ i (_ : i < l.length), i < kk → ∀ j (_ : j < l.length), j < i → l[j].anchor ≠ l[i].anchor) ∧ Below w2.heap.size w2 wr))
          case atStart => exact ⟨0, Nat.zero_le _, by omega, rfl, fun j _ h => absurd h (Nat.not_lt_zero _), HBo.out⟩
          case round =>
            obtain ⟨kk, hkk, hg, rfl, A2⟩ := hrel
            have HNE := Lib.hid A2.out.1
            have HBw := Lib.hid A2.out.2
            clear A2
            by_cases hlt : kk < l.length
            · have HN2 : Hid ((∀ j (_ : j < l.length), j < kk → l[j].anchor ≠ l[kk].anchor) → ∀ i (_ : i < l.length), i < kk + 1 → ∀ j (_ : j < l.length), j < i → l[j].anchor ≠ l[i].anchor) := Lib.hid fun h i hi hik j hj hji => by
                by_cases e : i = kk
                · subst e; exact h j hj hji
                · exact HNE.out i hi (by omega) j hj hji
              clear HNE
              go_wp2
              rename World => wo3
              have HB3 := Lib.hid HBw.out
              clear HBw
              go_loopg [7] kk (fun gg s7 wr => ∃ mm : Nat, mm ≤ kk ∧ kk - mm ≤ gg ∧ s7 = .int .i64 mm ∧ Aside ((∀ j (_ : j < l.length), j < mm → l[j].anchor ≠ l[kk].anchor) ∧ Below w2.heap.size w2 wr))
              case atStart => exact ⟨0, Nat.zero_le _, by omega, rfl, fun j _ h => absurd h (Nat.not_lt_zero _), HB3.out⟩
              case round =>
                obtain ⟨mm, hmm, hg2, rfl, A2⟩ := hrel
                have hBw := A2.out.2
                have HMN := Lib.hid A2.out.1
                have HBw := Lib.hid hBw
                by_cases hlm : mm < kk
                · obtain ⟨A3, c3, e3, _, _, hr3⟩ := hR2.out.below hBw
                  obtain ⟨b, off, rfl, hbl, hrow⟩ := hr3 (by omega)
                  simp only [Value.slice.injEq] at e3
                  obtain ⟨rfl, -, rfl⟩ := e3
                  clear hr3
                  have hml : mm < l.length := by omega
                  have c0 := hrow mm hml 0 _ rfl
                  have c1' := hrow kk hlt 0 _ rfl
                  simp only [Nat.add_zero, show EP.k = 2 from rfl] at c0 c1'
                  have HM2 : Hid (l[mm].anchor ≠ l[kk].anchor → ∀ j (_ : j < l.length), j < mm + 1 → l[j].anchor ≠ l[kk].anchor) := Lib.hid fun h j hj hjk => by
                    by_cases e : j = mm
                    · subst e; exact h
                    · exact HMN.out j hj (by omega)
                  clear A2 hrow hBw HMN
                  have i1 : (0 : Int) ≤ ↑kk := by omega
                  have i2 : (kk : Int) < (l.length : Int) := by omega
                  have i3 : (0 : Int) ≤ ↑mm := by omega
                  have i4 : (mm : Int) < (l.length : Int) := by omega
                  generalize l[mm].anchor = am at c0 HM2
                  generalize hak : l[kk].anchor = ak at c1' HM2
                  have HAK := Lib.hid hak
                  clear hak
                  by_cases ha : am = ak
                  · have ha' : (am == ak) = true := by simpa using ha
                    clear HM2 ha
                    go_wp2
                    go_quiet (skip)
                    go_wp2
                    exact HBAD.out 6 _ (by decide) ((HB2.out.go HBw.out).drewN _)
                  · have ha' : (am == ak) = false := by simpa using ha
                    have HM3 := Lib.hid (HM2.out ha)
                    clear HM2
                    go_wp2
                    go_quiet (skip)
                    go_wp2
                    go_roundg (kk - (mm + 1))
                    case measure => exact measU hg2 hlm
                    case rel => exact ⟨mm + 1, hlm, Nat.le_refl _, by go_num, fun j hj h => by rw [HAK.out]; exact HM3.out j hj h, HBw.out.drewN _⟩
                · have : mm = kk := by omega
                  subst this
                  have HN3 := Lib.hid (HN2.out HMN.out)
                  clear A2 hBw HMN HN2
                  go_wp2
                  go_roundg (l.length - (mm + 1))
                  case measure => exact measU hg hlt
                  case rel => exact ⟨mm + 1, hlt, Nat.le_refl _, by go_num, HN3.out, HBw.out⟩
            · have : kk = l.length := by omega
              subst this
              have HF5 := Lib.hid (HF4.out (nodup_pairs fun i hi j hj hji => HNE.out i hi hi j hj hji))
              clear HF4 HNE
              go_wp2
              exact HGOOD.out _ HF5.out (HB2.out.go HBw.out)
end Go.Proofs.YtjkmdpejcgepkaaGreatDoor
/- The reference's order of errata. -/
namespace Go.Proofs.YtjkmdpejcgepkaaGreatDoor
open Go.RowKit
def lessB (a b : Err) : Bool := decide (a.day < b.day ∨ a.day = b.day ∧ a.number < b.number)
set_option maxHeartbeats 2000000 in
theorem less_any (a b : Err) (w : World) : Calls Tryz.prog 49 #[a.val, b.val] w fun e w' => e = .returned (.bool (lessB a b)) ∧ Below w.heap.size w w' := by
  have R : Hid (lessB a b = decide (a.day < b.day ∨ a.day = b.day ∧ a.number < b.number)) := Lib.hid rfl
  generalize lessB a b = r at R ⊢
  obtain ⟨a0, a1, a2, a3, a4, a5⟩ := a
  obtain ⟨b0, b1, b2, b3, b4, b5⟩ := b
  dsimp only [Err.val] at R ⊢
  have hB : Below w.heap.size w ((w.alloc (.cells #[.int .i64 a0, .int .i64 a1, .int .u8 a2, .int .i64 a3, .string a4, .int .i64 a5] 27)).alloc (.cells #[.int .i64 b0, .int .i64 b1, .int .u8 b2, .int .i64 b3, .string b4, .int .i64 b5] 27)) := ((Below.refl _ w).alloc (Nat.le_refl _) _).alloc (by simp) _
  by_cases h1 : a1 < b1
  · have H := Lib.hid (show r = true by rw [R.out]; simp [h1]); clear R
    have h1' : decide (a1 < b1) = true := by simpa using h1
    go_enter Tryz.func49, Tryz.ntmps49
    go_wp2
    go_ret
    exact ⟨ret_bool H.out.symm, hB⟩
  have h1' : decide (a1 < b1) = false := by simpa using h1
  by_cases h2 : a1 = b1
  · have h2' : (a1 == b1) = true := by simpa using h2
    have H := Lib.hid (show r = decide (a0 < b0) by rw [R.out]; simp [h2]); clear R h2 h1
    go_enter Tryz.func49, Tryz.ntmps49
    go_wp2
    go_ret
    exact ⟨ret_bool H.out.symm, hB⟩
  · have h2' : (a1 == b1) = false := by simpa using h2
    have H := Lib.hid (show r = false by rw [R.out]; simp [h1, h2]); clear R h2 h1
    go_enter Tryz.func49, Tryz.ntmps49
    go_wp2
    go_ret
    exact ⟨ret_bool H.out.symm, hB⟩
end Go.Proofs.YtjkmdpejcgepkaaGreatDoor
