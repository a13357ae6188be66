/- VolumeLives: for the program. -/
import Derived.Test.YtjkmdpejcgepkaaGreatDoorEC
import Derived.Test.YtjkmdpejcgepkaaGreatDoorF2
import Derived.Test.YtjkmdpejcgepkaaGreatDoorG1
namespace Go.Proofs.YtjkmdpejcgepkaaGreatDoor
open Go.RowKit
set_option maxHeartbeats 8000000 in
set_option maxRecDepth 100000 in
theorem lives_any (v ev : Value) (x : Vol) (er : List Err) (k d dl : Nat) (w : World) (hv : IsVol w v x) (he : RdE w ev er) (hk : k ≤ 255) (hd : d ≤ 65535) (hdl : dl ≤ 65535) (hG : Glob w) :
    Calls Tryz.prog 6 #[v, ev, .int .u8 k, .int .u16 d, .int .u16 dl] w fun e w' => e = .returned (.bool true) ∧ Below w.heap.size w w' := by
  obtain ⟨sv, rfl, A, c, rfl, hx⟩ := id hv
  obtain ⟨A0, c0, rfl, -⟩ := id he
  obtain ⟨n0, n1, n2, n3, ps⟩ := x
  have hE := keep1_start w ⟨n0, n1, n2, n3, ps⟩ A c er _ hv he hG
  have k0 := hE.k0; have k1 := hE.k1; have k2 := hE.k2; have k3 := hE.k3; have k4 := hE.k4
  dsimp only [Vol.val] at k0 k1 k2 k3 k4 hE ⊢
  clear hv he hx hG
  go_enter Tryz.func6, Tryz.ntmps6
  go_wp2_with (fail)
  refine (ready_any _ _ ⟨n0, n1, n2, n3, ps⟩ er _ hE.vol hE.err).mono ?_
  rintro e W1 ⟨⟨b, rfl, hn⟩, hb⟩
  have hE := hE.below hb
  ((try clear k0 k1 k2 k3 k4); have k0 := hE.k0; have k1 := hE.k1; have k2 := hE.k2; have k3 := hE.k3; have k4 := hE.k4; dsimp only at k0 k1 k2 k3 k4)
  clear hb
  cases b
  · clear hn
    (go_wp2_with (fail); refine (wakes_any _ hE.glob).mono ?_; rintro e W2 ⟨rfl, hb⟩; go_wp2; go_ret; exact ⟨rfl, hE.base.trans (hb.mono hE.base.size)⟩)
  have hn1 := Lib.hid (hn rfl)
  clear hn
  obtain ⟨hs, -, ht⟩ := hn1.out.1.small
  have hp := ready_paras hn1.out.2.1
  have hq := hn1.out.1.errs
  have hq1 : er.length ≤ 1000000 := Nat.le_trans hq (by decide)
  have hl1 : er.length ≤ 1000 := Nat.le_trans hq (by decide)
  have hf1 : Hid (∀ z ∈ er, z.fits) := Lib.hid fun z hz => Nat.le_trans (ht z hz) (by decide)
  clear ht
  go_wp2_with (fail)
  refine (rafter_any _ _ ⟨n0, n1, n2, n3, ps⟩ er 99999 _ hE.vol hE.err hs hp hq).mono ?_
  rintro e W3 ⟨vl, L, rfl, hO, hL1, hL2, hb⟩
  have hE := hE.below hb
  ((try clear k0 k1 k2 k3 k4); have k0 := hE.k0; have k1 := hE.k1; have k2 := hE.k2; have k3 := hE.k3; have k4 := hE.k4; dsimp only at k0 k1 k2 k3 k4)
  clear hb hL1
  obtain ⟨A9, c9, rfl, hc9, hm9, hr9⟩ := hO.rd
  clear hO
  by_cases hz : L.length = 0
  · obtain rfl : L = [] := List.eq_nil_of_length_eq_zero hz
    clear hz hr9
    (go_wp2_with (fail); refine (wakes_any _ hE.glob).mono ?_; rintro e W2 ⟨rfl, hb⟩; go_wp2; go_ret; exact ⟨rfl, hE.base.trans (hb.mono hE.base.size)⟩)
  have hlp : 0 < L.length := Nat.pos_of_ne_zero hz
  have hzb : ((L.length : Int) == 0) = false := by simpa using hz
  obtain ⟨b, off, rfl, hb9, hrow⟩ := hr9 hlp
  clear hr9 hz
  have hj := Nat.mod_lt k hlp
  have hmod : (k : Int) % (L.length : Int) = ((k % L.length : Nat) : Int) := rfl
  have g0 : W3.cell? ⟨b, off + k % L.length * 4, none⟩ = some (.int .i64 L[k % L.length].anchor) := hrow (k % L.length) hj 0 _ rfl
  clear hrow
  generalize L[k % L.length].anchor = a at g0
  generalize k % L.length = j at g0 hmod hj
  generalize L.length = m at *
  have j0 : (0 : Int) ≤ (j : Int) := by omega
  have j1 : (j : Int) < (m : Int) := by omega
  have dd0 : (0 : Int) ≤ (d : Int) := by omega
  have dd1 : (d : Int) ≤ 99999 := by omega
  have HLV := Lib.hid (lives_law hn1.out.2.1 hn1.out.2.2 a (d := (d : Int)) (d' := min (99999 : Int) ((d : Int) + (dl : Int))) dd0 (by omega) (by omega))
  clear hL2
  (go_wp2_with (fail); refine (lvolume_any _ ⟨n0, n1, n2, n3, ps⟩ _ hE.vol hs).mono ?_; rintro e WV ⟨vv, rfl, hV, hb⟩; have hE := hE.below hb; (try (have hA := Rd.below hA hb)); clear hb; ((try clear k0 k1 k2 k3 k4); have k0 := hE.k0; have k1 := hE.k1; have k2 := hE.k2; have k3 := hE.k3; have k4 := hE.k4; dsimp only at k0 k1 k2 k3 k4))
  (go_wp2_with (fail); refine (lerrata_any _ er _ hE.err hq1).mono ?_; rintro e WR ⟨vr, rfl, hR, hb⟩; have hR := hR.rd; have hV := hV.below hb; have hE := hE.below hb; (try (have hA := Rd.below hA hb)); clear hb; ((try clear k0 k1 k2 k3 k4); have k0 := hE.k0; have k1 := hE.k1; have k2 := hE.k2; have k3 := hE.k3; have k4 := hE.k4; dsimp only at k0 k1 k2 k3 k4))
  go_wp2_with (fail)
  refine (Find_any _ _ ⟨n0, n1, n2, n3, ps⟩ er a d _ hV hs hR hl1 hf1.out).mono ?_
  generalize findE ⟨n0, n1, n2, n3, ps⟩ er a d = r1 at HLV
  obtain ⟨s1, g1, e1⟩ := r1
  rintro e WF ⟨rfl, hb⟩
  have hE := hE.below hb
  clear hb hV hR
  ((try clear k0 k1 k2 k3 k4); have k0 := hE.k0; have k1 := hE.k1; have k2 := hE.k2; have k3 := hE.k3; have k4 := hE.k4; dsimp only at k0 k1 k2 k3 k4)
  dsimp only [findV]
  (go_wp2_with (fail); refine (lvolume_any _ ⟨n0, n1, n2, n3, ps⟩ _ hE.vol hs).mono ?_; rintro e WV ⟨vv, rfl, hV, hb⟩; have hE := hE.below hb; (try (have hA := Rd.below hA hb)); clear hb; ((try clear k0 k1 k2 k3 k4); have k0 := hE.k0; have k1 := hE.k1; have k2 := hE.k2; have k3 := hE.k3; have k4 := hE.k4; dsimp only at k0 k1 k2 k3 k4))
  (go_wp2_with (fail); refine (lerrata_any _ er _ hE.err hq1).mono ?_; rintro e WR ⟨vr, rfl, hR, hb⟩; have hR := hR.rd; have hV := hV.below hb; have hE := hE.below hb; (try (have hA := Rd.below hA hb)); clear hb; ((try clear k0 k1 k2 k3 k4); have k0 := hE.k0; have k1 := hE.k1; have k2 := hE.k2; have k3 := hE.k3; have k4 := hE.k4; dsimp only at k0 k1 k2 k3 k4))
  go_wp2_with (fail)
  refine (Find_any _ _ ⟨n0, n1, n2, n3, ps⟩ er a (min (99999 : Int) ((d : Int) + (dl : Int))) _ hV hs hR hl1 hf1.out).mono ?_
  generalize findE ⟨n0, n1, n2, n3, ps⟩ er a (min (99999 : Int) ((d : Int) + (dl : Int))) = r2 at HLV
  obtain ⟨s2, g2, e2⟩ := r2
  rintro e WF ⟨rfl, hb⟩
  have hE := hE.below hb
  clear hb hV hR
  ((try clear k0 k1 k2 k3 k4); have k0 := hE.k0; have k1 := hE.k1; have k2 := hE.k2; have k3 := hE.k3; have k4 := hE.k4; dsimp only at k0 k1 k2 k3 k4)
  dsimp only [findV]
  rcases HLV.out with ⟨q1, q2, q3⟩ | ⟨q1, -, -, q2⟩
  · dsimp only at q1 q2 q3
    subst q1; subst q2
    cases g1
    · clear q3 HLV
      (go_wp2_with (fail); refine (wakes_any _ hE.glob).mono ?_; rintro e W2 ⟨rfl, hb⟩; go_wp2; go_ret; exact ⟨rfl, hE.base.trans (hb.mono hE.base.size)⟩)
    · obtain ⟨rfl, rfl⟩ := q3 rfl
      clear q3 HLV
      (go_wp2_with (fail); refine (wakes_any _ hE.glob).mono ?_; rintro e W2 ⟨rfl, hb⟩; go_wp2; go_ret; exact ⟨rfl, hE.base.trans (hb.mono hE.base.size)⟩)
  · dsimp only at q1 q2
    subst q1
    clear HLV
    rcases q2 with rfl | rfl
    · (go_wp2_with (fail); refine (wakes_any _ hE.glob).mono ?_; rintro e W2 ⟨rfl, hb⟩; go_wp2; go_ret; exact ⟨rfl, hE.base.trans (hb.mono hE.base.size)⟩)
    · (go_wp2_with (fail); refine (wakes_any _ hE.glob).mono ?_; rintro e W2 ⟨rfl, hb⟩; go_wp2; go_ret; exact ⟨rfl, hE.base.trans (hb.mono hE.base.size)⟩)
end Go.Proofs.YtjkmdpejcgepkaaGreatDoor
