/- VolumeWords: for the program. -/
import Derived.Test.YtjkmdpejcgepkaaGreatDoorEC
import Derived.Test.YtjkmdpejcgepkaaGreatDoorF2
import Derived.Test.YtjkmdpejcgepkaaGreatDoorG1
namespace Go.Proofs.YtjkmdpejcgepkaaGreatDoor
open Go.RowKit
def hasA (l : List Para) (a : Int) : Bool := l.any fun p => p.anchor == a
theorem hasA_snoc (l : List Para) (p : Para) (a : Int) : hasA (l ++ [p]) a = (hasA l a || p.anchor == a) := by simp [hasA]
theorem hasA_iff (l : List Para) (a : Int) : hasA l a = true ↔ ∃ p ∈ l, p.anchor = a := by simp [hasA]
set_option maxHeartbeats 8000000 in
set_option maxRecDepth 100000 in
theorem words_any (v ev : Value) (x : Vol) (er : List Err) (d k : Nat) (w : World) (hv : IsVol w v x) (he : RdE w ev er) (hd : d ≤ 65535) (hk : k ≤ 255) (hG : Glob w) :
    Calls Tryz.prog 7 #[v, ev, .int .u16 d, .int .u8 k] w fun e w' => e = .returned (.bool true) ∧ Below w.heap.size w w' := by
  obtain ⟨sv, rfl, A, c, rfl, hx⟩ := id hv
  obtain ⟨A0, c0, rfl, -⟩ := id he
  obtain ⟨n0, n1, n2, n3, ps⟩ := x
  have hE := keep1_start w ⟨n0, n1, n2, n3, ps⟩ A c er _ hv he hG
  have k0 := hE.k0; have k1 := hE.k1; have k2 := hE.k2; have k3 := hE.k3; have k4 := hE.k4
  dsimp only [Vol.val] at k0 k1 k2 k3 k4 hE ⊢
  clear hv he hx hG
  go_enter Tryz.func7, Tryz.ntmps7
  go_wp2_with (fail)
  refine (ready_any _ _ ⟨n0, n1, n2, n3, ps⟩ er _ hE.vol hE.err).mono ?_
  rintro e W1 ⟨⟨b, rfl, hn⟩, hb⟩
  have hE := hE.below hb
  ((try clear k0 k1 k2 k3 k4); have k0 := hE.k0; have k1 := hE.k1; have k2 := hE.k2; have k3 := hE.k3; have k4 := hE.k4; dsimp only at k0 k1 k2 k3 k4)
  clear hb
  cases b
  · clear hn
    (go_wp2_with (fail); refine (wakes_any _ hE.glob).mono ?_; rintro e W2 ⟨rfl, hb⟩; go_wp2; go_ret; exact ⟨rfl, hE.base.trans (hb.mono hE.base.size)⟩)
  have hn1 := Lib.hid (hn rfl)
  clear hn
  obtain ⟨hs, -, ht⟩ := hn1.out.1.small
  have hp := ready_paras hn1.out.2.1
  have hq := hn1.out.1.errs
  have hq1 : er.length ≤ 1000000 := Nat.le_trans hq (by decide)
  have hl1 : er.length ≤ 1000 := Nat.le_trans hq (by decide)
  have hf1 : ∀ z ∈ er, z.fits := fun z hz => Nat.le_trans (ht z hz) (by decide)
  have hd2 : (d : Int) ≤ 99999 := by omega
  have HWL := Lib.hid (words_law hn1.out.2.1 hn1.out.2.2 (d := d) (by omega) hd2)
  have HEM : Hid (ps.flatMap (·.paras) = [] → readL ⟨n0, n1, n2, n3, ps⟩ er d = []) := Lib.hid fun h => read_empty _ _ _ (by show (ps.flatMap (·.paras)).length = 0; rw [h]; rfl)
  clear ht
  (go_wp2_with (fail); refine (lvolume_any _ ⟨n0, n1, n2, n3, ps⟩ _ hE.vol hs).mono ?_; rintro e WV ⟨vv, rfl, hV, hb⟩; have hE := hE.below hb; (try (have hA := Rd.below hA hb)); clear hb; ((try clear k0 k1 k2 k3 k4); have k0 := hE.k0; have k1 := hE.k1; have k2 := hE.k2; have k3 := hE.k3; have k4 := hE.k4; dsimp only at k0 k1 k2 k3 k4))
  (go_wp2_with (fail); refine (lerrata_any _ er _ hE.err hq1).mono ?_; rintro e WR ⟨vr, rfl, hR, hb⟩; have hR := hR.rd; have hV := hV.below hb; have hE := hE.below hb; (try (have hA := Rd.below hA hb)); clear hb; ((try clear k0 k1 k2 k3 k4); have k0 := hE.k0; have k1 := hE.k1; have k2 := hE.k2; have k3 := hE.k3; have k4 := hE.k4; dsimp only at k0 k1 k2 k3 k4))
  go_wp2_with (fail)
  refine (Read_any _ _ ⟨n0, n1, n2, n3, ps⟩ er d _ hV hs hR hl1 hf1).mono ?_
  rw [HWL.out.1]
  rintro e WA ⟨va, rfl, hA, hb⟩
  have hA := hA.rd
  have hE := hE.below hb
  clear hb hV hR
  ((try clear k0 k1 k2 k3 k4); have k0 := hE.k0; have k1 := hE.k1; have k2 := hE.k2; have k3 := hE.k3; have k4 := hE.k4; dsimp only at k0 k1 k2 k3 k4)
  have HW2 := Lib.hid HWL.out.2.1
  have HW3 := Lib.hid HWL.out.2.2
  clear HWL
  generalize readL (⟨n0, n1, n2, n3, ps⟩ : Vol) er d = l at hA HW2 HW3 HEM
  obtain ⟨A5, c5, rfl, hc5, hm5, -⟩ := id hA
  have hfind : Hid (∀ (a : Int) W vv vr, IsVol W vv ⟨n0, n1, n2, n3, ps⟩ → RdE W vr er → Calls Tryz.prog 23 #[vv, vr, .int .i64 a, .int .i64 d] W fun e w' => e = .returned (findV (findE ⟨n0, n1, n2, n3, ps⟩ er a d)) ∧ Below W.heap.size W w') :=
    Lib.hid fun a W vv vr h1 h2 => Find_any _ _ ⟨n0, n1, n2, n3, ps⟩ er a d W h1 hs h2 hl1 hf1
  go_wp2
  go_loopg [11] l.length (fun gg s11 wr => ∃ kk : Nat, kk ≤ l.length ∧ l.length - kk ≤ gg ∧ s11 = .int .i64 kk ∧ Aside (Keep1 w ⟨n0, n1, n2, n3, ps⟩ A c er (.slice A0 er.length c0) wr ∧ RdP wr (.slice A5 l.length c5) l))
  case atStart => exact ⟨0, Nat.zero_le _, by omega, rfl, hE, hA⟩
  case round =>
    clear k0 k1 k2 k3 k4 hE hA
    obtain ⟨kk, hkk, hg, rfl, A2⟩ := hrel
    obtain ⟨hE, hA⟩ := A2.out
    clear A2
    have k0 := hE.k0; have k1 := hE.k1; have k2 := hE.k2; have k3 := hE.k3; have k4 := hE.k4
    dsimp only at k0 k1 k2 k3 k4
    by_cases hlt : kk < l.length
    · obtain ⟨A6, c6, e6, -, -, hrr⟩ := id hA
      cases e6
      obtain ⟨b, off, rfl, hbb, hrow⟩ := hrr (by omega)
      have g0 : wr.cell? ⟨b, off + kk * 2, none⟩ = some (.int .i64 l[kk].anchor) := hrow kk hlt 0 _ rfl
      have g1 : wr.cell? ⟨b, off + kk * 2 + 1, none⟩ = some (.string l[kk].text) := hrow kk hlt 1 _ rfl
      clear hrow hrr
      have HF := HW2.out l[kk] (List.getElem_mem hlt)
      have hfi := hfind.out l[kk].anchor
      rw [HF] at hfi
      dsimp only [findV] at hfi
      have HFI := Lib.hid hfi
      clear HF hfi
      generalize l[kk].anchor = pa at g0 HFI
      generalize l[kk].text = pt at g1 HFI
      have i1 : (0 : Int) ≤ ↑kk := by omega
      have i2 : (kk : Int) < (l.length : Int) := by omega
      have hBd : Below wr.heap.size wr wr.drew := (Below.refl _ wr).drew
      have hE := hE.below hBd
      have hA := Rd.below hA hBd
      have hg0 : wr.drew.cell? ⟨b, off + kk * 2, none⟩ = some (.int .i64 pa) := g0
      have hg1 : wr.drew.cell? ⟨b, off + kk * 2 + 1, none⟩ = some (.string pt) := g1
      have hbb : b < wr.drew.heap.size := hbb
      have hwd : IntKind.i64.wrap (d : Int) = (d : Int) := by rw [IntKind.wrap_i64]; omega
      have HG := Lib.hid (And.intro hg0 hg1)
      clear hBd hg0 hg1
      go_wp2
      go_region_held3 (fun w' => w'.cell? ⟨w.heap.size, 0, none⟩ = some (.int .i64 n0) ∧ w'.cell? ⟨w.heap.size, 1, none⟩ = some (.int .i64 n1) ∧ w'.cell? ⟨w.heap.size, 2, none⟩ = some (.int .i64 n2) ∧ w'.cell? ⟨w.heap.size, 3, none⟩ = some (.int .i64 n3) ∧ w'.cell? ⟨w.heap.size, 4, none⟩ = some (.slice A ps.length c) ∧ w'.cell? ⟨b, off + kk * 2, none⟩ = some (.int .i64 pa)) (go_keep)
        (first
          | (go_at_call 14; refine (lvolume_any _ ⟨n0, n1, n2, n3, ps⟩ _ hE.vol hs).mono ?_; rintro e WV ⟨vv, rfl, hV, hb⟩; have hg0 := (hb.cell (p := ⟨b, off + kk * 2, none⟩) hbb).trans HG.out.1; have hg1 := (hb.cell (p := ⟨b, off + kk * 2 + 1, none⟩) hbb).trans HG.out.2; have hbb1 := Nat.lt_of_lt_of_le hbb hb.size; have hE := hE.below hb; have hA := Rd.below hA hb; clear hb g0 g1; ((try clear k0 k1 k2 k3 k4); have k0 := hE.k0; have k1 := hE.k1; have k2 := hE.k2; have k3 := hE.k3; have k4 := hE.k4; dsimp only at k0 k1 k2 k3 k4))
          | (go_at_call 15; refine (lerrata_any _ er _ hE.err hq1).mono ?_; rintro e WR ⟨vr, rfl, hR, hb⟩; have hg2 := (hb.cell (p := ⟨b, off + kk * 2, none⟩) hbb1).trans hg0; have hg3 := (hb.cell (p := ⟨b, off + kk * 2 + 1, none⟩) hbb1).trans hg1; have hbb2 := Nat.lt_of_lt_of_le hbb1 hb.size; have hR := hR.rd; have hV := hV.below hb; have hE := hE.below hb; have hA := Rd.below hA hb; clear hb hg0 hg1; ((try clear k0 k1 k2 k3 k4); have k0 := hE.k0; have k1 := hE.k1; have k2 := hE.k2; have k3 := hE.k3; have k4 := hE.k4; dsimp only at k0 k1 k2 k3 k4))
          | (go_at_call 23; refine (HFI.out _ _ _ hV hR).mono ?_; rintro e WF ⟨rfl, hb⟩; have hg4 := (hb.cell (p := ⟨b, off + kk * 2, none⟩) hbb2).trans hg2; have hg5 := (hb.cell (p := ⟨b, off + kk * 2 + 1, none⟩) hbb2).trans hg3; have hE := hE.below hb; have hA := Rd.below hA hb; clear hb hg2 hg3; ((try clear k0 k1 k2 k3 k4); have k0 := hE.k0; have k1 := hE.k1; have k2 := hE.k2; have k3 := hE.k3; have k4 := hE.k4; dsimp only at k0 k1 k2 k3 k4)))
      go_wp2
      go_roundg (l.length - (kk + 1))
      case measure => exact measU hg hlt
      case rel => exact ⟨kk + 1, hlt, Nat.le_refl _, by go_num, hE, hA⟩
    · have : kk = l.length := Nat.le_antisymm hkk (Nat.le_of_not_lt hlt)
      subst this
      clear HW2
      go_wp2_with (fail)
      refine (rafter_any _ _ ⟨n0, n1, n2, n3, ps⟩ er 99999 _ hE.vol hE.err hs hp hq).mono ?_
      rintro e W3 ⟨vl, L, rfl, hO, hL1, -, hb⟩
      have hE := hE.below hb
      have hA := Rd.below hA hb
      ((try clear k0 k1 k2 k3 k4); have k0 := hE.k0; have k1 := hE.k1; have k2 := hE.k2; have k3 := hE.k3; have k4 := hE.k4; dsimp only at k0 k1 k2 k3 k4)
      clear hb
      obtain ⟨A9, c9, rfl, hc9, hm9, hr9⟩ := hO.rd
      clear hO
      by_cases hz : L.length = 0
      · have hps : ps.flatMap (·.paras) = [] := List.eq_nil_of_length_eq_zero (Nat.le_zero.1 (hz ▸ hL1))
        obtain rfl : l = [] := HEM.out hps
        obtain rfl : L = [] := List.eq_nil_of_length_eq_zero hz
        clear hz hr9 hL1 HEM hps HW3 hfind
        (go_wp2_with (fail); refine (wakes_any _ hE.glob).mono ?_; rintro e W2 ⟨rfl, hb⟩; go_wp2; go_ret; exact ⟨rfl, hE.base.trans (hb.mono hE.base.size)⟩)
      have hlp : 0 < L.length := Nat.pos_of_ne_zero hz
      have hzb : ((L.length : Int) == 0) = false := by simpa using hz
      obtain ⟨b, off, rfl, hb9, hrow⟩ := hr9 hlp
      clear hr9 hz hL1 HEM
      have hj := Nat.mod_lt k hlp
      have hmod : (k : Int) % (L.length : Int) = ((k % L.length : Nat) : Int) := rfl
      have g0 : W3.cell? ⟨b, off + k % L.length * 4, none⟩ = some (.int .i64 L[k % L.length].anchor) := hrow (k % L.length) hj 0 _ rfl
      clear hrow
      generalize L[k % L.length].anchor = a at g0
      generalize k % L.length = j at g0 hmod hj
      generalize L.length = m at *
      have j0 : (0 : Int) ≤ (j : Int) := by omega
      have j1 : (j : Int) < (m : Int) := by omega
      have HWa := Lib.hid (HW3.out a)
      have hfi := hfind.out a
      clear HW3 hfind
      generalize findE ⟨n0, n1, n2, n3, ps⟩ er a d = r at HWa hfi
      obtain ⟨s1, g1, e1⟩ := r
      dsimp only [findV] at hfi
      have HFI := Lib.hid hfi
      clear hfi
      (go_wp2_with (fail); refine (lvolume_any _ ⟨n0, n1, n2, n3, ps⟩ _ hE.vol hs).mono ?_; rintro e WV ⟨vv, rfl, hV, hb⟩; have hE := hE.below hb; (try (have hA := Rd.below hA hb)); clear hb; ((try clear k0 k1 k2 k3 k4); have k0 := hE.k0; have k1 := hE.k1; have k2 := hE.k2; have k3 := hE.k3; have k4 := hE.k4; dsimp only at k0 k1 k2 k3 k4))
      (go_wp2_with (fail); refine (lerrata_any _ er _ hE.err hq1).mono ?_; rintro e WR ⟨vr, rfl, hR, hb⟩; have hR := hR.rd; have hV := hV.below hb; have hE := hE.below hb; (try (have hA := Rd.below hA hb)); clear hb; ((try clear k0 k1 k2 k3 k4); have k0 := hE.k0; have k1 := hE.k1; have k2 := hE.k2; have k3 := hE.k3; have k4 := hE.k4; dsimp only at k0 k1 k2 k3 k4))
      go_wp2_with (fail)
      refine (HFI.out _ _ _ hV hR).mono ?_
      rintro e WF ⟨rfl, hb⟩
      have hE := hE.below hb
      have hA := Rd.below hA hb
      clear hb hV hR HFI
      ((try clear k0 k1 k2 k3 k4); have k0 := hE.k0; have k1 := hE.k1; have k2 := hE.k2; have k3 := hE.k3; have k4 := hE.k4; dsimp only at k0 k1 k2 k3 k4)
      go_wp2_with (fail)
      rename World => wo
      go_loopg [20, 21] l.length (fun gg s20 s21 wr => ∃ kk : Nat, kk ≤ l.length ∧ l.length - kk ≤ gg ∧ s21 = .int .i64 kk ∧ s20 = .bool (hasA (l.take kk) a) ∧ Aside (Keep1 w ⟨n0, n1, n2, n3, ps⟩ A c er (.slice A0 er.length c0) wr ∧ RdP wr (.slice A5 l.length c5) l))
      case atStart => exact ⟨0, Nat.zero_le _, by omega, rfl, rfl, hE, hA⟩
      case round =>
        clear k0 k1 k2 k3 k4 hE hA
        obtain ⟨kk, hkk, hg, rfl, rfl, A2⟩ := hrel
        obtain ⟨hE, hA⟩ := A2.out
        clear A2
        by_cases hlt : kk < l.length
        · obtain ⟨A6, c6, e6, -, -, hrr⟩ := id hA
          cases e6
          obtain ⟨b, off, rfl, hbb, hrow⟩ := hrr (by omega)
          have g0 : wr.cell? ⟨b, off + kk * 2, none⟩ = some (.int .i64 l[kk].anchor) := hrow kk hlt 0 _ rfl
          have HTK : Hid (hasA (l.take (kk + 1)) a = (hasA (l.take kk) a || l[kk].anchor == a)) := Lib.hid (by rw [List.take_succ_eq_append_getElem hlt, hasA_snoc])
          clear hrow hrr
          generalize l[kk].anchor = pa at g0 HTK
          generalize hasA (l.take kk) a = q at HTK
          have i1 : (0 : Int) ≤ ↑kk := by omega
          have i2 : (kk : Int) < (l.length : Int) := by omega
          cases q
          · go_wp2
            go_roundg (l.length - (kk + 1))
            case measure => exact measU hg hlt
            case rel => exact ⟨kk + 1, hlt, Nat.le_refl _, by go_num, by rw [HTK.out]; simp, hE, hA⟩
          · go_wp2
            go_roundg (l.length - (kk + 1))
            case measure => exact measU hg hlt
            case rel => exact ⟨kk + 1, hlt, Nat.le_refl _, by go_num, by rw [HTK.out]; simp, hE, hA⟩
        · have : kk = l.length := Nat.le_antisymm hkk (Nat.le_of_not_lt hlt)
          subst this
          rw [List.take_length]
          have HQ : Hid (hasA l a = true ↔ (e1 = 0 ∧ g1 = false)) := Lib.hid ((hasA_iff l a).trans HWa.out)
          clear HWa
          generalize hasA l a = q at HQ ⊢
          by_cases he1 : e1 = 0
          · subst he1
            cases g1
            · obtain rfl : q = true := HQ.out.2 ⟨rfl, rfl⟩
              clear HQ
              (go_wp2_with (fail); refine (wakes_any _ hE.glob).mono ?_; rintro e W2 ⟨rfl, hb⟩; go_wp2; go_ret; exact ⟨rfl, hE.base.trans (hb.mono hE.base.size)⟩)
            · obtain rfl : q = false := Bool.eq_false_iff.2 fun h => by have := (HQ.out.1 h).2; cases this
              clear HQ
              (go_wp2_with (fail); refine (wakes_any _ hE.glob).mono ?_; rintro e W2 ⟨rfl, hb⟩; go_wp2; go_ret; exact ⟨rfl, hE.base.trans (hb.mono hE.base.size)⟩)
          · have he2 : (e1 == 0) = false := by simpa using he1
            obtain rfl : q = false := Bool.eq_false_iff.2 fun h => he1 (HQ.out.1 h).1
            clear HQ
            (go_wp2_with (fail); refine (wakes_any _ hE.glob).mono ?_; rintro e W2 ⟨rfl, hb⟩; go_wp2; go_ret; exact ⟨rfl, hE.base.trans (hb.mono hE.base.size)⟩)
end Go.Proofs.YtjkmdpejcgepkaaGreatDoor
