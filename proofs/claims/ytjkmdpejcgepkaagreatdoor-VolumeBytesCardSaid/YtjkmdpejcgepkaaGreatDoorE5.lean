/- The reference's error of errata. -/
import Derived.Test.YtjkmdpejcgepkaaGreatDoorE3
import Derived.Deep.RegionHeld3
namespace Go.Proofs.YtjkmdpejcgepkaaGreatDoor
open Go.RowKit
structure EOk (x : Vol) (l : List Err) : Prop where
  few : l.length ≤ 20
  ok : ∀ j (_ : j < l.length), l[j].ok = true
  apart : ∀ i (_ : i < l.length), ∀ k (_ : k < l.length), k ≠ i → l[k].number ≠ l[i].number ∧ ¬ (l[i].kind = 2 ∧ l[k].kind = 2 ∧ l[k].new = l[i].new)
  fresh : ∀ i (_ : i < l.length), ∀ k (_ : k < x.paras.length), ¬ (l[i].kind = 2 ∧ x.paras[k].anchor = l[i].new)
  there : ∀ i (_ : i < l.length), (∃ k, ∃ _ : k < x.paras.length, x.paras[k].anchor = l[i].anchor) ∨ ∃ k, ∃ _ : k < l.length, l[k].kind = 2 ∧ l[k].new = l[i].anchor ∧ lessB l[k] l[i] = true
def EFaultPost (w : World) (x : Vol) (l : List Err) (e : Ending) (w' : World) : Prop := (∃ n : Int, e = .returned (.int .i64 n) ∧ (n = 0 → EOk x l)) ∧ Below w.heap.size w w'
/-- an erratum's cells in a row that is read -/
theorem err_cells {w : World} {b off : Nat} {l : List Err} (h : RowAt EE.f EE.k w b off l) (j : Nat) (hj : j < l.length) :
    w.cell? ⟨b, off + j * 6, none⟩ = some (.int .i64 l[j].number) ∧ w.cell? ⟨b, off + j * 6 + 1, none⟩ = some (.int .i64 l[j].day) ∧ w.cell? ⟨b, off + j * 6 + 2, none⟩ = some (.int .u8 l[j].kind) ∧ w.cell? ⟨b, off + j * 6 + 3, none⟩ = some (.int .i64 l[j].anchor) ∧ w.cell? ⟨b, off + j * 6 + 4, none⟩ = some (.string l[j].text) ∧ w.cell? ⟨b, off + j * 6 + 5, none⟩ = some (.int .i64 l[j].new) :=
  ⟨h j hj 0 _ rfl, h j hj 1 _ rfl, h j hj 2 _ rfl, h j hj 3 _ rfl, h j hj 4 _ rfl, h j hj 5 _ rfl⟩
set_option maxHeartbeats 16000000 in
set_option maxRecDepth 100000 in
theorem refault_any (v ev : Value) (x : Vol) (er : List Err) (w : World) (hv : IsVol w v x) (hs : x.small) (he : RdE w ev er) (hte : ∀ y ∈ er, y.text.size ≤ 1000000) : Calls Tryz.prog 51 #[v, ev] w (EFaultPost w x er) := by
  obtain ⟨sv, rfl, A, c, rfl, hc, hm, hr⟩ := id hv
  obtain ⟨A0, c0, rfl, hc0, hm0, hr0⟩ := id he
  have hpl : x.paras.length ≤ 100000 := by
    have := take_paras_le x.parts x.parts.length hs.1 (fun p hp => (hs.2 p hp).1)
    rwa [List.take_length] at this
  have hall : ∀ W, Below w.heap.size w W → Calls Tryz.prog 71 #[x.val (.slice A x.parts.length c)] W (RParasPost W x.paras) := fun W hW => rall_any _ x W (hv.below hW) hs
  have HTE := Lib.hid hte
  have HRE : Hid (∀ W, Below w.heap.size w W → 0 < er.length → ∃ b off, A0 = some ⟨b, off, none⟩ ∧ b < w.heap.size ∧ b < W.heap.size ∧ RowAt EE.f EE.k W b off er) := Lib.hid fun W hW h0 => by
    obtain ⟨b, off, h1, h2, h3⟩ := hr0 h0
    exact ⟨b, off, h1, h2, Nat.lt_of_lt_of_le h2 hW.size, h3.below h2 hW⟩
  clear hv hs hte hr0 he
  obtain ⟨n0, n1, n2, n3, ps⟩ := x
  have HF : Hid (∀ (_ : er.length ≤ 20) (_ : ∀ j (_ : j < er.length), er[j].ok = true) (_ : ∀ i (_ : i < er.length), ∀ k (_ : k < er.length), k ≠ i → er[k].number ≠ er[i].number ∧ ¬ (er[i].kind = 2 ∧ er[k].kind = 2 ∧ er[k].new = er[i].new))
      (_ : ∀ i (_ : i < er.length), ∀ k (_ : k < (Vol.mk n0 n1 n2 n3 ps).paras.length), ¬ (er[i].kind = 2 ∧ (Vol.mk n0 n1 n2 n3 ps).paras[k].anchor = er[i].new))
      (_ : ∀ i (_ : i < er.length), (∃ k, ∃ _ : k < (Vol.mk n0 n1 n2 n3 ps).paras.length, (Vol.mk n0 n1 n2 n3 ps).paras[k].anchor = er[i].anchor) ∨ ∃ k, ∃ _ : k < er.length, er[k].kind = 2 ∧ er[k].new = er[i].anchor ∧ lessB er[k] er[i] = true), EOk (Vol.mk n0 n1 n2 n3 ps) er) := Lib.hid fun a1 a2 a3 a4 a5 => ⟨a1, a2, a3, a4, a5⟩
  have HBAD : Hid (∀ (n : Int) w', n ≠ 0 → Below w.heap.size w w' → EFaultPost w (Vol.mk n0 n1 n2 n3 ps) er (.returned (.int .i64 n)) w') := Lib.hid fun n w' h1 h2 => ⟨⟨n, rfl, fun h => absurd h h1⟩, h2⟩
  have HGOOD : Hid (∀ w', EOk (Vol.mk n0 n1 n2 n3 ps) er → Below w.heap.size w w' → EFaultPost w (Vol.mk n0 n1 n2 n3 ps) er (.returned (.int .i64 0)) w') := Lib.hid fun w' h1 h2 => ⟨⟨0, rfl, fun _ => h1⟩, h2⟩
  dsimp only [Vol.val] at hall hc hm ⊢
  generalize EOk (Vol.mk n0 n1 n2 n3 ps) er = ok at HF HGOOD
  generalize EFaultPost w (Vol.mk n0 n1 n2 n3 ps) er = PP at HBAD HGOOD ⊢
  generalize (Vol.mk n0 n1 n2 n3 ps).paras = l at hall hpl HF
  have hB1 : Below w.heap.size w (w.alloc (.cells #[.int .i64 n0, .int .i64 n1, .int .i64 n2, .int .i64 n3, .slice A ps.length c] 24)) := (Below.refl _ _).alloc (Nat.le_refl _) _
  have hvc : Hid (∀ W, Below (w.alloc (.cells #[.int .i64 n0, .int .i64 n1, .int .i64 n2, .int .i64 n3, .slice A ps.length c] 24)).heap.size (w.alloc (.cells #[.int .i64 n0, .int .i64 n1, .int .i64 n2, .int .i64 n3, .slice A ps.length c] 24)) W →
      w.heap.size < W.heap.size ∧ W.cell? ⟨w.heap.size, 0, none⟩ = some (.int .i64 n0) ∧ W.cell? ⟨w.heap.size, 1, none⟩ = some (.int .i64 n1) ∧ W.cell? ⟨w.heap.size, 2, none⟩ = some (.int .i64 n2) ∧ W.cell? ⟨w.heap.size, 3, none⟩ = some (.int .i64 n3) ∧ W.cell? ⟨w.heap.size, 4, none⟩ = some (.slice A ps.length c)) := Lib.hid fun W h3 => by
    have hz := h3.size
    rw [World.size_alloc] at hz h3
    refine ⟨hz, ?_, ?_, ?_, ?_, ?_⟩ <;> (rw [h3.cell (p := ⟨w.heap.size, _, none⟩) (Nat.lt_succ_self _)]; simp [go_sem])
  by_cases h20 : 20 < er.length
  · have h20' : decide ((20 : Int) < (er.length : Int)) = true := by simp; omega
    go_enter Tryz.func51, Tryz.ntmps51
    go_wp2
    exact HBAD.out 3 _ (by decide) hB1
  have h20' : decide ((20 : Int) < (er.length : Int)) = false := by simp; omega
  have h20n : decide (20 < er.length) = false := by simp; omega
  have HF1 := Lib.hid (HF.out (by omega))
  clear HF
  go_enter Tryz.func51, Tryz.ntmps51
  go_wp2
  clear h20' h20n
  obtain ⟨W0, hW0⟩ : ∃ W0, w.alloc (.cells #[.int .i64 n0, .int .i64 n1, .int .i64 n2, .int .i64 n3, .slice A ps.length c] 24) = W0 := ⟨_, rfl⟩
  rw [hW0] at hB1 hvc ⊢
  clear hW0
  go_loopg [5] er.length (fun gg s5 wr => ∃ kk : Nat, kk ≤ er.length ∧ er.length - kk ≤ gg ∧ s5 = .int .i64 kk ∧ Aside ((∀ j (_ : j < er.length), j < kk → er[j].ok = true) ∧ Below W0.heap.size W0 wr))
  case atStart => exact ⟨0, Nat.zero_le _, by omega, rfl, fun j _ h => absurd h (Nat.not_lt_zero _), Below.refl _ _⟩
  case round =>
    obtain ⟨kk, hkk, hg, rfl, A2⟩ := hrel
    have hBw := A2.out.2
    have HOK := Lib.hid A2.out.1
    have HBw := Lib.hid hBw
    by_cases hlt : kk < er.length
    · obtain ⟨b, off, rfl, hb, hbW, hrow⟩ := HRE.out wr (hB1.go hBw) (by omega)
      obtain ⟨d0, d1, d2, d3, d4, d5⟩ := err_cells hrow kk hlt
      have htx := HTE.out _ (List.getElem_mem hlt)
      have HO2 : Hid (er[kk].ok = true → ∀ j (_ : j < er.length), j < kk + 1 → er[j].ok = true) := Lib.hid fun h j hj hjk => by
        by_cases e : j = kk
        · subst e; exact h
        · exact HOK.out j hj (by omega)
      have hri := right_any er[kk] wr htx
      clear A2 hrow hBw HOK htx
      generalize er[kk] = y at d0 d1 d2 d3 d4 d5 HO2 hri
      generalize y.ok = yk at HO2 hri
      obtain ⟨y0, y1, y2, y3, y4, y5⟩ := y
      dsimp only [Err.val] at d0 d1 d2 d3 d4 d5 hri
      have i1 : (0 : Int) ≤ ↑kk := by omega
      have i2 : (kk : Int) < (er.length : Int) := by omega
      cases yk
      · clear HO2
        go_wp2_with (first | (go_at_call 74; refine hri.mono ?_; rintro e w1 ⟨rfl, hb1⟩))
        exact HBAD.out 1 _ (by decide) ((hB1.go HBw.out).go hb1)
      · have HY := Lib.hid (HO2.out rfl)
        clear HO2
        go_wp2_with (first | (go_at_call 74; refine hri.mono ?_; rintro e w1 ⟨rfl, hb1⟩))
        go_roundg (er.length - (kk + 1))
        case measure => exact measU hg hlt
        case rel => exact ⟨kk + 1, hlt, Nat.le_refl _, by go_num, HY.out, HBw.out.go hb1⟩
    · have : kk = er.length := by omega
      subst this
      have HF2 := Lib.hid (HF1.out (fun j hj => HOK.out j hj hj))
      have hall1 := hall _ (hB1.go hBw)
      obtain ⟨x0, x1, x2, x3, x4, x5⟩ := hvc.out wr hBw
      clear A2 hBw HF1 HOK hlt hg hkk hall
      go_wp2_with (first | (go_at_call 71; refine hall1.mono ?_; rintro e w2 ⟨pv, rfl, hO, hb2⟩; obtain ⟨A1, c1, rfl, hc1, hm1, hro⟩ := id hO.rd))
      have HB2 := Lib.hid ((hB1.go HBw.out).go hb2)
      have hR2 := Lib.hid hO.rd
      clear hall1 hb2 hO hro x0 x1 x2 x3 x4 x5 HBw hvc hB1
      go_loopg [7, 8, 9] er.length (fun gg s7 s8 s9 wr => ∃ kk : Nat, kk ≤ er.length ∧ er.length - kk ≤ gg ∧ s7 = .int .i64 kk ∧ Aside ((∀ i (_ : i < er.length), i < kk → (∀ k (_ : k < er.length), k ≠ i → er[k].number ≠ er[i].number ∧ ¬ (er[i].kind = 2 ∧ er[k].kind = 2 ∧ er[k].new = er[i].new)) ∧ ∀ k (_ : k < l.length), ¬ (er[i].kind = 2 ∧ l[k].anchor = er[i].new)) ∧ Below w2.heap.size w2 wr))
      case atStart => exact ⟨0, Nat.zero_le _, by omega, rfl, fun j _ h => absurd h (Nat.not_lt_zero _), Below.refl _ _⟩
      case round =>
        obtain ⟨kk, hkk, hg, rfl, A2⟩ := hrel
        have HPA := Lib.hid A2.out.1
        have HBw := Lib.hid A2.out.2
        clear A2
        by_cases hlt : kk < er.length
        · have HP2 : Hid ((∀ k (_ : k < er.length), k ≠ kk → er[k].number ≠ er[kk].number ∧ ¬ (er[kk].kind = 2 ∧ er[k].kind = 2 ∧ er[k].new = er[kk].new)) → (∀ k (_ : k < l.length), ¬ (er[kk].kind = 2 ∧ l[k].anchor = er[kk].new)) →
              ∀ i (_ : i < er.length), i < kk + 1 → (∀ k (_ : k < er.length), k ≠ i → er[k].number ≠ er[i].number ∧ ¬ (er[i].kind = 2 ∧ er[k].kind = 2 ∧ er[k].new = er[i].new)) ∧ ∀ k (_ : k < l.length), ¬ (er[i].kind = 2 ∧ l[k].anchor = er[i].new)) := Lib.hid fun h1 h2 i hi hik => by
            by_cases e : i = kk
            · subst e; exact ⟨h1, h2⟩
            · exact HPA.out i hi (by omega)
          clear HPA
          go_wp2
          rename World => wo
          have HBo := Lib.hid HBw.out
          clear HBw
          go_loopg [8] er.length (fun gg s8 wr => ∃ mm : Nat, mm ≤ er.length ∧ er.length - mm ≤ gg ∧ s8 = .int .i64 mm ∧ Aside ((∀ k (_ : k < er.length), k < mm → k ≠ kk → er[k].number ≠ er[kk].number ∧ ¬ (er[kk].kind = 2 ∧ er[k].kind = 2 ∧ er[k].new = er[kk].new)) ∧ Below w2.heap.size w2 wr))
          case atStart => exact ⟨0, Nat.zero_le _, by omega, rfl, fun j _ h => absurd h (Nat.not_lt_zero _), HBo.out⟩
          case round =>
            obtain ⟨mm, hmm, hg2, rfl, A2⟩ := hrel
            have HMN := Lib.hid A2.out.1
            have HBw := Lib.hid A2.out.2
            clear A2
            by_cases hlm : mm < er.length
            · obtain ⟨b, off, rfl, hb, hbW, hrow⟩ := HRE.out wr (HB2.out.go HBw.out) (by omega)
              obtain ⟨d0, -, d2, -, -, d5⟩ := err_cells hrow kk hlt
              obtain ⟨g0, -, g2, -, -, g5⟩ := err_cells hrow mm hlm
              have HM2 : Hid ((mm ≠ kk → er[mm].number ≠ er[kk].number ∧ ¬ (er[kk].kind = 2 ∧ er[mm].kind = 2 ∧ er[mm].new = er[kk].new)) → ∀ k (_ : k < er.length), k < mm + 1 → k ≠ kk → er[k].number ≠ er[kk].number ∧ ¬ (er[kk].kind = 2 ∧ er[k].kind = 2 ∧ er[k].new = er[kk].new)) := Lib.hid fun h k hk hkm hne => by
                by_cases e : k = mm
                · subst e; exact h hne
                · exact HMN.out k hk (by omega) hne
              clear hrow HMN
              have i1 : (0 : Int) ≤ ↑kk := by omega
              have i2 : (kk : Int) < (er.length : Int) := by omega
              have i3 : (0 : Int) ≤ ↑mm := by omega
              have i4 : (mm : Int) < (er.length : Int) := by omega
              by_cases e : mm = kk
              · subst e
                have HM3 := Lib.hid (HM2.out (fun h => absurd rfl h))
                have e' : ((mm : Int) != (mm : Int)) = false := by simp
                clear HM2 d0 d2 d5 g0 g2 g5
                go_wp2
                go_quiet (skip)
                go_wp2
                go_roundg (er.length - (mm + 1))
                case measure => exact measU hg2 hlm
                case rel => exact ⟨mm + 1, hlm, Nat.le_refl _, by go_num, HM3.out, HBw.out.drewN _⟩
              have e' : ((mm : Int) != (kk : Int)) = true := by simp; omega
              have e2 : (mm != kk) = true := by simpa using e
              generalize hN1 : er[kk].number = xn at *
              generalize hN2 : er[mm].number = yn at *
              generalize hN3 : er[kk].kind = xk at *
              generalize hN4 : er[mm].kind = yk at *
              generalize hN5 : er[kk].new = xw at *
              generalize hN6 : er[mm].new = yw at *
              clear hN1 hN2 hN3 hN4 hN5 hN6
              by_cases q1 : yn = xn
              · have q1' : (yn == xn) = true := by simpa using q1
                clear HM2 q1
                go_wp2
                go_quiet (skip)
                go_wp2
                exact HBAD.out 6 _ (by decide) ((HB2.out.go HBw.out).drewN _)
              have q1' : (yn == xn) = false := by simpa using q1
              by_cases q2 : xk = 2
              case neg =>
                have q2' : (xk == 2) = false := by simpa using q2
                have HM3 := Lib.hid (HM2.out (fun _ => ⟨q1, fun h => q2 h.1⟩))
                clear HM2 q1 q2
                go_wp2
                go_quiet (skip)
                go_wp2
                go_roundg (er.length - (mm + 1))
                case measure => exact measU hg2 hlm
                case rel => exact ⟨mm + 1, hlm, Nat.le_refl _, by go_num, HM3.out, HBw.out.drewN _⟩
              have q2' : (xk == 2) = true := by simpa using q2
              by_cases q3 : yk = 2
              case neg =>
                have q3' : (yk == 2) = false := by simpa using q3
                have HM3 := Lib.hid (HM2.out (fun _ => ⟨q1, fun h => q3 h.2.1⟩))
                clear HM2 q1 q2 q3
                go_wp2
                go_quiet (skip)
                go_wp2
                go_roundg (er.length - (mm + 1))
                case measure => exact measU hg2 hlm
                case rel => exact ⟨mm + 1, hlm, Nat.le_refl _, by go_num, HM3.out, HBw.out.drewN _⟩
              have q3' : (yk == 2) = true := by simpa using q3
              by_cases q4 : yw = xw
              · have q4' : (yw == xw) = true := by simpa using q4
                clear HM2 q1 q2 q3 q4
                go_wp2
                go_quiet (skip)
                go_wp2
                exact HBAD.out 6 _ (by decide) ((HB2.out.go HBw.out).drewN _)
              · have q4' : (yw == xw) = false := by simpa using q4
                have HM3 := Lib.hid (HM2.out (fun _ => ⟨q1, fun h => q4 h.2.2⟩))
                clear HM2 q1 q2 q3 q4
                go_wp2
                go_quiet (skip)
                go_wp2
                go_roundg (er.length - (mm + 1))
                case measure => exact measU hg2 hlm
                case rel => exact ⟨mm + 1, hlm, Nat.le_refl _, by go_num, HM3.out, HBw.out.drewN _⟩
            · have : mm = er.length := by omega
              subst this
              have HP3 := Lib.hid (HP2.out (fun k hk hne => HMN.out k hk hk hne))
              clear HMN HP2
              go_wp2
              rename World => wo4
              have HBo4 := Lib.hid HBw.out
              clear HBw
              go_loopg [9] l.length (fun gg s9 wr => ∃ mm : Nat, mm ≤ l.length ∧ l.length - mm ≤ gg ∧ s9 = .int .i64 mm ∧ Aside ((∀ k (_ : k < l.length), k < mm → ¬ (er[kk].kind = 2 ∧ l[k].anchor = er[kk].new)) ∧ Below w2.heap.size w2 wr))
              case atStart => exact ⟨0, Nat.zero_le _, by omega, rfl, fun j _ h => absurd h (Nat.not_lt_zero _), HBo4.out⟩
              case round =>
                obtain ⟨mm, hmm3, hg3, rfl, A2⟩ := hrel
                have HMN := Lib.hid A2.out.1
                have HBw := Lib.hid A2.out.2
                clear A2
                by_cases hlm3 : mm < l.length
                · obtain ⟨b, off, rfl, hb, hbW, hrow⟩ := HRE.out wr (HB2.out.go HBw.out) (by omega)
                  obtain ⟨-, -, d2, -, -, d5⟩ := err_cells hrow kk hlt
                  obtain ⟨A3, c3, e3, _, _, hr3⟩ := hR2.out.below HBw.out
                  obtain ⟨b3, off3, rfl, hbl3, hrow3⟩ := hr3 (by omega)
                  simp only [Value.slice.injEq] at e3
                  obtain ⟨rfl, -, rfl⟩ := e3
                  clear hr3
                  have g0 := hrow3 mm hlm3 0 _ rfl
                  simp only [Nat.add_zero, show EP.k = 2 from rfl] at g0
                  have HM2 : Hid (¬ (er[kk].kind = 2 ∧ l[mm].anchor = er[kk].new) → ∀ k (_ : k < l.length), k < mm + 1 → ¬ (er[kk].kind = 2 ∧ l[k].anchor = er[kk].new)) := Lib.hid fun h k hk hkm => by
                    by_cases e : k = mm
                    · subst e; exact h
                    · exact HMN.out k hk (by omega)
                  clear hrow hrow3 HMN
                  have i1 : (0 : Int) ≤ ↑kk := by omega
                  have i2 : (kk : Int) < (er.length : Int) := by omega
                  have i3 : (0 : Int) ≤ ↑mm := by omega
                  have i4 : (mm : Int) < (l.length : Int) := by omega
                  generalize hN3 : er[kk].kind = xk at *
                  generalize hN5 : er[kk].new = xw at *
                  generalize hN6 : l[mm].anchor = ya at *
                  clear hN3 hN5 hN6
                  by_cases q2 : xk = 2
                  case neg =>
                    have q2' : (xk == 2) = false := by simpa using q2
                    have HM3 := Lib.hid (HM2.out (fun h => q2 h.1))
                    clear HM2 q2
                    go_wp2
                    go_quiet (skip)
                    go_wp2
                    go_roundg (l.length - (mm + 1))
                    case measure => exact measU hg3 hlm3
                    case rel => exact ⟨mm + 1, hlm3, Nat.le_refl _, by go_num, HM3.out, HBw.out.drewN _⟩
                  have q2' : (xk == 2) = true := by simpa using q2
                  by_cases q4 : ya = xw
                  · have q4' : (ya == xw) = true := by simpa using q4
                    clear HM2 q2 q4
                    go_wp2
                    go_quiet (skip)
                    go_wp2
                    exact HBAD.out 6 _ (by decide) ((HB2.out.go HBw.out).drewN _)
                  · have q4' : (ya == xw) = false := by simpa using q4
                    have HM3 := Lib.hid (HM2.out (fun h => q4 h.2))
                    clear HM2 q2 q4
                    go_wp2
                    go_quiet (skip)
                    go_wp2
                    go_roundg (l.length - (mm + 1))
                    case measure => exact measU hg3 hlm3
                    case rel => exact ⟨mm + 1, hlm3, Nat.le_refl _, by go_num, HM3.out, HBw.out.drewN _⟩
                · have : mm = l.length := by omega
                  subst this
                  have HP4 := Lib.hid (HP3.out (fun k hk => HMN.out k hk hk))
                  clear HMN HP3
                  go_wp2
                  go_roundg (er.length - (kk + 1))
                  case measure => exact measU hg hlt
                  case rel => exact ⟨kk + 1, hlt, Nat.le_refl _, by go_num, HP4.out, HBw.out⟩
        · have : kk = er.length := by omega
          subst this
          have HF3 := Lib.hid (HF2.out (fun i hi k hk hne => (HPA.out i hi hi).1 k hk hne) (fun i hi k hk => (HPA.out i hi hi).2 k hk))
          clear HPA HF2 hg hkk hlt
          go_wp2
          rename World => wz
          have HBz := Lib.hid HBw.out
          clear HBw
          go_loopg [10, 11, 12, 13] er.length (fun gg s10 s11 s12 s13 wr => ∃ kk : Nat, kk ≤ er.length ∧ er.length - kk ≤ gg ∧ s10 = .int .i64 kk ∧ Aside ((∀ i (_ : i < er.length), i < kk → (∃ k, ∃ _ : k < l.length, l[k].anchor = er[i].anchor) ∨ ∃ k, ∃ _ : k < er.length, er[k].kind = 2 ∧ er[k].new = er[i].anchor ∧ lessB er[k] er[i] = true) ∧ Below w2.heap.size w2 wr))
          case atStart => exact ⟨0, Nat.zero_le _, by omega, rfl, fun j _ h => absurd h (Nat.not_lt_zero _), HBz.out⟩
          case round =>
            obtain ⟨kk, hkk, hg, rfl, A2⟩ := hrel
            have HTH := Lib.hid A2.out.1
            have HBw := Lib.hid A2.out.2
            clear A2
            by_cases hlt : kk < er.length
            · have HT2 : Hid (((∃ k, ∃ _ : k < l.length, l[k].anchor = er[kk].anchor) ∨ ∃ k, ∃ _ : k < er.length, er[k].kind = 2 ∧ er[k].new = er[kk].anchor ∧ lessB er[k] er[kk] = true) → ∀ i (_ : i < er.length), i < kk + 1 → (∃ k, ∃ _ : k < l.length, l[k].anchor = er[i].anchor) ∨ ∃ k, ∃ _ : k < er.length, er[k].kind = 2 ∧ er[k].new = er[i].anchor ∧ lessB er[k] er[i] = true) := Lib.hid fun h i hi hik => by
                by_cases e : i = kk
                · subst e; exact h
                · exact HTH.out i hi (by omega)
              clear HTH
              obtain ⟨TT, hTT⟩ : ∃ TT : Prop, TT = ((∃ k, ∃ _ : k < l.length, l[k].anchor = er[kk].anchor) ∨ ∃ k, ∃ _ : k < er.length, er[k].kind = 2 ∧ er[k].new = er[kk].anchor ∧ lessB er[k] er[kk] = true) := ⟨_, rfl⟩
              have HA1 : Hid (∀ k (_ : k < l.length), l[k].anchor = er[kk].anchor → TT) := Lib.hid fun k hk h => by rw [hTT]; exact .inl ⟨k, hk, h⟩
              have HA2 : Hid (∀ k (_ : k < er.length), er[k].kind = 2 → er[k].new = er[kk].anchor → lessB er[k] er[kk] = true → TT) := Lib.hid fun k hk h1 h2 h3 => by rw [hTT]; exact .inr ⟨k, hk, h1, h2, h3⟩
              rw [← hTT] at HT2
              clear hTT
              go_wp2
              rename World => wo
              have HBo := Lib.hid HBw.out
              clear HBw
              go_loopg [11, 12] l.length (fun gg s11 s12 wr => ∃ mm : Nat, ∃ bb : Bool, mm ≤ l.length ∧ l.length - mm ≤ gg ∧ s12 = .int .i64 mm ∧ s11 = .bool bb ∧ Aside ((bb = true → TT) ∧ Below w2.heap.size w2 wr))
              case atStart => exact ⟨0, false, Nat.zero_le _, by omega, rfl, rfl, (fun h => by cases h), HBo.out⟩
              case round =>
                obtain ⟨mm, bb, hmm, hg2, rfl, rfl, A2⟩ := hrel
                have HTB := Lib.hid A2.out.1
                have HBw := Lib.hid A2.out.2
                clear A2
                by_cases hlm : mm < l.length
                · obtain ⟨b, off, rfl, hb, hbW, hrow⟩ := HRE.out wr (HB2.out.go HBw.out) (by omega)
                  obtain ⟨-, -, -, d3, -, -⟩ := err_cells hrow kk hlt
                  obtain ⟨A3, c3, e3, _, _, hr3⟩ := hR2.out.below HBw.out
                  obtain ⟨b3, off3, rfl, hbl3, hrow3⟩ := hr3 (by omega)
                  simp only [Value.slice.injEq] at e3
                  obtain ⟨rfl, -, rfl⟩ := e3
                  clear hr3
                  have g0 := hrow3 mm hlm 0 _ rfl
                  simp only [Nat.add_zero, show EP.k = 2 from rfl] at g0
                  have HA3 := Lib.hid (HA1.out mm hlm)
                  clear hrow hrow3
                  have i1 : (0 : Int) ≤ ↑kk := by omega
                  have i2 : (kk : Int) < (er.length : Int) := by omega
                  have i3 : (0 : Int) ≤ ↑mm := by omega
                  have i4 : (mm : Int) < (l.length : Int) := by omega
                  generalize er[kk].anchor = xa at d3 HA3
                  generalize l[mm].anchor = ya at g0 HA3
                  cases bb
                  · by_cases q : ya = xa
                    · have q' : (ya == xa) = true := by simpa using q
                      have HY := Lib.hid (HA3.out q)
                      clear q HA3 HTB
                      go_wp2
                      go_quiet (skip)
                      go_wp2
                      go_roundg (l.length - (mm + 1))
                      case measure => exact measU hg2 hlm
                      case rel => exact ⟨mm + 1, true, hlm, Nat.le_refl _, by go_num, rfl, fun _ => HY.out, HBw.out.drewN _⟩
                    · have q' : (ya == xa) = false := by simpa using q
                      clear q HA3 HTB
                      go_wp2
                      go_quiet (skip)
                      go_wp2
                      go_roundg (l.length - (mm + 1))
                      case measure => exact measU hg2 hlm
                      case rel => exact ⟨mm + 1, false, hlm, Nat.le_refl _, by go_num, rfl, (fun h => by cases h), HBw.out.drewN _⟩
                  · have HY := Lib.hid (HTB.out rfl)
                    clear HA3 HTB
                    go_wp2
                    go_quiet (skip)
                    go_wp2
                    go_roundg (l.length - (mm + 1))
                    case measure => exact measU hg2 hlm
                    case rel => exact ⟨mm + 1, true, hlm, Nat.le_refl _, by go_num, rfl, fun _ => HY.out, HBw.out.drewN _⟩
                · have : mm = l.length := by omega
                  subst this
                  clear HA1
                  go_wp2
                  rename World => wo4
                  have HBo4 := Lib.hid HBw.out
                  clear HBw
                  go_loopg [11, 13] er.length (fun gg s11 s13 wr => ∃ mm : Nat, ∃ bb : Bool, mm ≤ er.length ∧ er.length - mm ≤ gg ∧ s13 = .int .i64 mm ∧ s11 = .bool bb ∧ Aside ((bb = true → TT) ∧ Below w2.heap.size w2 wr))
                  case atStart => exact ⟨0, bb, Nat.zero_le _, by omega, rfl, rfl, HTB.out, HBo4.out⟩
                  case round =>
                    clear HTB
                    obtain ⟨mm, bb2, hmm3, hg3, rfl, rfl, A2⟩ := hrel
                    have HTB := Lib.hid A2.out.1
                    have HBw := Lib.hid A2.out.2
                    clear A2
                    by_cases hlm3 : mm < er.length
                    · obtain ⟨b, off, rfl, hb, hbW, hrow⟩ := HRE.out wr (HB2.out.go HBw.out) (by omega)
                      obtain ⟨d0, d1, d2, d3, d4, d5⟩ := err_cells hrow kk hlt
                      obtain ⟨g0, g1, g2, g3, g4, g5⟩ := err_cells hrow mm hlm3
                      have HA3 := Lib.hid (HA2.out mm hlm3)
                      have hless := fun W => less_any er[mm] er[kk] W
                      clear hrow
                      have i1 : (0 : Int) ≤ ↑kk := by omega
                      have i2 : (kk : Int) < (er.length : Int) := by omega
                      have i3 : (0 : Int) ≤ ↑mm := by omega
                      have i4 : (mm : Int) < (er.length : Int) := by omega
                      have hzr := (HB2.out.go HBw.out).size
                      generalize er[kk] = xx at d0 d1 d2 d3 d4 d5 HA3 hless
                      generalize er[mm] = yy at g0 g1 g2 g3 g4 g5 HA3 hless
                      generalize lessB yy xx = lb at HA3 hless
                      obtain ⟨xn, xd, xk, xa, xt, xw⟩ := xx
                      obtain ⟨yn, yd, yk, ya, yt, yw⟩ := yy
                      dsimp only [Err.val] at d0 d1 d2 d3 d4 d5 g0 g1 g2 g3 g4 g5 HA3 hless
                      cases bb2
                      case true =>
                        have HY := Lib.hid (HTB.out rfl)
                        clear HA3 HTB hless
                        go_wp2
                        go_quiet (skip)
                        go_wp2
                        go_roundg (er.length - (mm + 1))
                        case measure => exact measU hg3 hlm3
                        case rel => exact ⟨mm + 1, true, hlm3, Nat.le_refl _, by go_num, rfl, fun _ => HY.out, HBw.out.drewN _⟩
                      clear HTB
                      by_cases q1 : yk = 2
                      case neg =>
                        have q1' : (yk == 2) = false := by simpa using q1
                        clear HA3 q1 hless
                        go_wp2
                        go_quiet (skip)
                        go_wp2
                        go_roundg (er.length - (mm + 1))
                        case measure => exact measU hg3 hlm3
                        case rel => exact ⟨mm + 1, false, hlm3, Nat.le_refl _, by go_num, rfl, (fun h => by cases h), HBw.out.drewN _⟩
                      have q1' : (yk == 2) = true := by simpa using q1
                      by_cases q2 : yw = xa
                      case neg =>
                        have q2' : (yw == xa) = false := by simpa using q2
                        clear HA3 q1 q2 hless
                        go_wp2
                        go_quiet (skip)
                        go_wp2
                        go_roundg (er.length - (mm + 1))
                        case measure => exact measU hg3 hlm3
                        case rel => exact ⟨mm + 1, false, hlm3, Nat.le_refl _, by go_num, rfl, (fun h => by cases h), HBw.out.drewN _⟩
                      have q2' : (yw == xa) = true := by simpa using q2
                      have HY : Hid (lb = true → TT) := Lib.hid (HA3.out q1 q2)
                      clear HA3 q1 q2
                      clear hr
                      have CE : Hid (∀ w4, Below wr.drew.heap.size wr.drew w4 → w4.cell? ⟨b, off + mm * 6, none⟩ = some (.int .i64 yn) ∧ w4.cell? ⟨b, off + mm * 6 + 1, none⟩ = some (.int .i64 yd) ∧ w4.cell? ⟨b, off + mm * 6 + 2, none⟩ = some (.int .u8 yk) ∧ w4.cell? ⟨b, off + mm * 6 + 3, none⟩ = some (.int .i64 ya) ∧ w4.cell? ⟨b, off + mm * 6 + 4, none⟩ = some (.string yt) ∧ w4.cell? ⟨b, off + mm * 6 + 5, none⟩ = some (.int .i64 yw) ∧ w4.cell? ⟨b, off + kk * 6, none⟩ = some (.int .i64 xn) ∧ w4.cell? ⟨b, off + kk * 6 + 1, none⟩ = some (.int .i64 xd) ∧ w4.cell? ⟨b, off + kk * 6 + 2, none⟩ = some (.int .u8 xk) ∧ w4.cell? ⟨b, off + kk * 6 + 3, none⟩ = some (.int .i64 xa) ∧ w4.cell? ⟨b, off + kk * 6 + 4, none⟩ = some (.string xt) ∧ w4.cell? ⟨b, off + kk * 6 + 5, none⟩ = some (.int .i64 xw)) := Lib.hid fun w4 h4 => by
                        have hc4 : ∀ o, w4.cell? ⟨b, o, none⟩ = wr.cell? ⟨b, o, none⟩ := fun o => h4.cell (p := ⟨b, o, none⟩) hbW
                        simp only [hc4]
                        exact ⟨g0, g1, g2, g3, g4, g5, d0, d1, d2, d3, d4, d5⟩
                      have HBd : Hid (Below w2.heap.size w2 wr.drew) := Lib.hid (HBw.out.drewN 1)
                      have hless1 := hless wr.drew
                      clear hless
                      go_wp2
                      go_region_held3 (fun w' => w'.cell? ⟨b, off + mm * 6, none⟩ = some (.int .i64 yn) ∧ w'.cell? ⟨b, off + mm * 6 + 1, none⟩ = some (.int .i64 yd) ∧ w'.cell? ⟨b, off + mm * 6 + 2, none⟩ = some (.int .u8 yk) ∧ w'.cell? ⟨b, off + mm * 6 + 3, none⟩ = some (.int .i64 ya) ∧ w'.cell? ⟨b, off + mm * 6 + 4, none⟩ = some (.string yt) ∧ w'.cell? ⟨b, off + mm * 6 + 5, none⟩ = some (.int .i64 yw) ∧ w'.cell? ⟨b, off + kk * 6, none⟩ = some (.int .i64 xn) ∧ w'.cell? ⟨b, off + kk * 6 + 1, none⟩ = some (.int .i64 xd) ∧ w'.cell? ⟨b, off + kk * 6 + 2, none⟩ = some (.int .u8 xk) ∧ w'.cell? ⟨b, off + kk * 6 + 3, none⟩ = some (.int .i64 xa) ∧ w'.cell? ⟨b, off + kk * 6 + 4, none⟩ = some (.string xt) ∧ w'.cell? ⟨b, off + kk * 6 + 5, none⟩ = some (.int .i64 xw)) (go_keep)
                        (first | (go_at_call 49; refine hless1.mono ?_; rintro e w4 ⟨rfl, hb4⟩; obtain ⟨h0, h1, h2, h3, h4, h5, h6, h7, h8, h9, h10, h11⟩ := CE.out w4 hb4))
                      all_goals
                        have HB4 := Lib.hid (HBd.out.go hb4)
                        go_wp2
                        go_roundg (er.length - (mm + 1))
                        case measure => exact measU hg3 hlm3
                        case rel => exact ⟨mm + 1, lb, hlm3, Nat.le_refl _, by go_num, rfl, HY.out, HB4.out⟩
                    · have : mm = er.length := by omega
                      subst this
                      cases bb2
                      · go_wp2
                        exact HBAD.out 7 _ (by decide) (HB2.out.go HBw.out)
                      · have HT3 := Lib.hid (HT2.out (HTB.out rfl))
                        clear HT2 HTB HA2
                        go_wp2
                        go_roundg (er.length - (kk + 1))
                        case measure => exact measU hg hlt
                        case rel => exact ⟨kk + 1, hlt, Nat.le_refl _, by go_num, HT3.out, HBw.out⟩
            · have : kk = er.length := by omega
              subst this
              have HF4 := Lib.hid (HF3.out (fun i hi => HTH.out i hi hi))
              clear HF3 HTH
              go_wp2
              exact HGOOD.out _ HF4.out (HB2.out.go HBw.out)
end Go.Proofs.YtjkmdpejcgepkaaGreatDoor
