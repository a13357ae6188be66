/- VolumeLinks: for the program. -/
import Derived.Test.YtjkmdpejcgepkaaGreatDoorEC
import Derived.Test.YtjkmdpejcgepkaaGreatDoorF3
import Derived.Test.YtjkmdpejcgepkaaGreatDoorG3
namespace Go.Proofs.YtjkmdpejcgepkaaGreatDoor
open Go.RowKit
set_option maxHeartbeats 8000000 in
set_option maxRecDepth 100000 in
theorem links_any (v ev : Value) (x : Vol) (er : List Err) (y : Err) (k st d : Nat) (w : World) (hv : IsVol w v x) (he : RdE w ev er) (hl : (er.length + 1) * 56 ≤ 140737488355328) (hk : k ≤ 255) (hst : st ≤ 255) (hd : d ≤ 65535) (hG : Glob w) :
    Calls Tryz.prog 4 #[v, ev, y.val, .int .u8 k, .int .u8 st, .int .u16 d] w fun e w' => e = .returned (.bool true) ∧ Below w.heap.size w w' := by
  obtain ⟨sv, rfl, A, c, rfl, hx⟩ := id hv
  obtain ⟨A0, c0, rfl, -⟩ := id he
  obtain ⟨n0, n1, n2, n3, ps⟩ := x
  obtain ⟨y0, y1, y2, y3, y4, y5⟩ := y
  have hE := lks_start w ⟨n0, n1, n2, n3, ps⟩ A c er _ ⟨y0, y1, y2, y3, y4, y5⟩ hv he hG
  have k0 := hE.k0; have k1 := hE.k1; have k2 := hE.k2; have k3 := hE.k3; have k4 := hE.k4
  have m0 := hE.m0; have m1 := hE.m1; have m2 := hE.m2; have m3 := hE.m3; have m4 := hE.m4; have m5 := hE.m5
  dsimp only [Vol.val, Err.val] at k0 k1 k2 k3 k4 m0 m1 m2 m3 m4 m5 hE ⊢
  have HL := Lib.hid hl
  clear hv he hx hG hl
  go_enter Tryz.func4, Tryz.ntmps4
  go_wp2_with (fail)
  obtain ⟨W0, hW0⟩ : ∃ W0, (w.alloc (.cells #[.int .i64 n0, .int .i64 n1, .int .i64 n2, .int .i64 n3, .slice A ps.length c] 24)).alloc (.cells #[.int .i64 y0, .int .i64 y1, .int .u8 y2, .int .i64 y3, .string y4, .int .i64 y5] 27) = W0 := ⟨_, rfl⟩
  rw [hW0] at hE k0 k1 k2 k3 k4 m0 m1 m2 m3 m4 m5 ⊢
  clear hW0
  refine (ready_any _ _ ⟨n0, n1, n2, n3, ps⟩ er _ hE.vol hE.err).mono ?_
  rintro e W1 ⟨⟨b, rfl, hn⟩, hb⟩
  have hE := hE.below hb
  (clear k0 k1 k2 k3 k4 m0 m1 m2 m3 m4 m5; have k0 := hE.k0; have k1 := hE.k1; have k2 := hE.k2; have k3 := hE.k3; have k4 := hE.k4; have m0 := hE.m0; have m1 := hE.m1; have m2 := hE.m2; have m3 := hE.m3; have m4 := hE.m4; have m5 := hE.m5; dsimp only at k0 k1 k2 k3 k4 m0 m1 m2 m3 m4 m5)
  clear hb
  cases b
  · clear hn
    (go_wp2_with (fail); refine (wakes_any _ hE.glob).mono ?_; rintro e W2 ⟨rfl, hb⟩; go_wp2; go_ret; exact ⟨rfl, hE.base.trans (hb.mono hE.base.size)⟩)
  have hn1 := Lib.hid (hn rfl)
  clear hn
  obtain ⟨hs, -, ht⟩ := hn1.out.1.small
  have hp := ready_paras hn1.out.2.1
  have hq := hn1.out.1.errs
  have hq1 : er.length ≤ 1000000 := Nat.le_trans hq (by decide)
  have hl1 : er.length ≤ 1000 := Nat.le_trans hq (by decide)
  have hf1 : ∀ z ∈ er, z.fits := fun z hz => Nat.le_trans (ht z hz) (by decide)
  clear ht
  go_wp2_with (fail)
  refine (rafter_any _ _ ⟨n0, n1, n2, n3, ps⟩ er 99999 _ hE.vol hE.err hs hp hq).mono ?_
  rintro e W3 ⟨vl, L, rfl, hO, hL1, ⟨-, hL2⟩, hb⟩
  have hE := hE.below hb
  (clear k0 k1 k2 k3 k4 m0 m1 m2 m3 m4 m5; have k0 := hE.k0; have k1 := hE.k1; have k2 := hE.k2; have k3 := hE.k3; have k4 := hE.k4; have m0 := hE.m0; have m1 := hE.m1; have m2 := hE.m2; have m3 := hE.m3; have m4 := hE.m4; have m5 := hE.m5; dsimp only at k0 k1 k2 k3 k4 m0 m1 m2 m3 m4 m5)
  clear hb hL1
  obtain ⟨A9, c9, rfl, hc9, hm9, hr9⟩ := hO.rd
  clear hO
  by_cases hz : L.length = 0
  · obtain rfl : L = [] := List.eq_nil_of_length_eq_zero hz
    clear hz hr9 hL2
    (go_wp2_with (fail); refine (wakes_any _ hE.glob).mono ?_; rintro e W2 ⟨rfl, hb⟩; go_wp2; go_ret; exact ⟨rfl, hE.base.trans (hb.mono hE.base.size)⟩)
  have hlp : 0 < L.length := Nat.pos_of_ne_zero hz
  have hzb : ((L.length : Int) == 0) = false := by simpa using hz
  obtain ⟨b, off, rfl, hb9, hrow⟩ := hr9 hlp
  clear hr9 hz
  have hj := Nat.mod_lt k hlp
  have hmod : (k : Int) % (L.length : Int) = ((k % L.length : Nat) : Int) := rfl
  have g0 : W3.cell? ⟨b, off + k % L.length * 4, none⟩ = some (.int .i64 L[k % L.length].anchor) := hrow (k % L.length) hj 0 _ rfl
  have hab := after_anchor hn1.out.2.1 hn1.out.2.2 hL2 _ (List.getElem_mem hj)
  clear hL2 hrow
  generalize L[k % L.length].anchor = a at g0 hab
  generalize k % L.length = j at g0 hmod hj
  generalize L.length = m at *
  have j0 : (0 : Int) ≤ (j : Int) := by omega
  have j1 : (j : Int) < (m : Int) := by omega
  have hs2 := Nat.mod_lt st (show 0 < 3 by decide)
  have hmod2 : (st : Int) % 3 = ((st % 3 : Nat) : Int) := rfl
  generalize st % 3 = s at hs2 hmod2
  have s0 : (0 : Int) ≤ (s : Int) := by omega
  have s2 : (s : Int) ≤ 2 := by omega
  have dd0 : (0 : Int) ≤ (d : Int) := by omega
  have dd1 : (d : Int) ≤ 99999 := by omega
  have hat : -9223372036854775808 ≤ a ∧ a ≤ 9223372036854775807 := by omega
  have HLK := Lib.hid (links_law hn1.out.2.1 hn1.out.2.2 hs a s d s0 s2 dd0 dd1)
  (go_wp2_with (fail); refine (lvolume_any _ ⟨n0, n1, n2, n3, ps⟩ _ hE.vol hs).mono ?_; rintro e WV ⟨vv, rfl, hV, hb⟩; have hE := hE.below hb; (try (have hA := Rd.below hA hb)); clear hb; (clear k0 k1 k2 k3 k4 m0 m1 m2 m3 m4 m5; have k0 := hE.k0; have k1 := hE.k1; have k2 := hE.k2; have k3 := hE.k3; have k4 := hE.k4; have m0 := hE.m0; have m1 := hE.m1; have m2 := hE.m2; have m3 := hE.m3; have m4 := hE.m4; have m5 := hE.m5; dsimp only at k0 k1 k2 k3 k4 m0 m1 m2 m3 m4 m5))
  (go_wp2_with (fail); refine (lerrata_any _ er _ hE.err hq1).mono ?_; rintro e WR ⟨vr, rfl, hR, hb⟩; have hR := hR.rd; have hV := hV.below hb; have hE := hE.below hb; (try (have hA := Rd.below hA hb)); clear hb; (clear k0 k1 k2 k3 k4 m0 m1 m2 m3 m4 m5; have k0 := hE.k0; have k1 := hE.k1; have k2 := hE.k2; have k3 := hE.k3; have k4 := hE.k4; have m0 := hE.m0; have m1 := hE.m1; have m2 := hE.m2; have m3 := hE.m3; have m4 := hE.m4; have m5 := hE.m5; dsimp only at k0 k1 k2 k3 k4 m0 m1 m2 m3 m4 m5))
  go_wp2_with (fail)
  refine (Cite_any _ _ ⟨n0, n1, n2, n3, ps⟩ er a s d _ hV hs hR hl1 hf1 s0 hat hE.glob).mono ?_
  rcases HLK.out with ⟨cc, q1, q2, q3, q4⟩ | q1
  case inr =>
    rw [q1]
    rintro e WC ⟨rfl, hb⟩
    have hE := hE.below hb
    clear hb hV hR HLK q1
    (clear k0 k1 k2 k3 k4 m0 m1 m2 m3 m4 m5; have k0 := hE.k0; have k1 := hE.k1; have k2 := hE.k2; have k3 := hE.k3; have k4 := hE.k4; have m0 := hE.m0; have m1 := hE.m1; have m2 := hE.m2; have m3 := hE.m3; have m4 := hE.m4; have m5 := hE.m5; dsimp only at k0 k1 k2 k3 k4 m0 m1 m2 m3 m4 m5)
    dsimp only [citeV]
    (go_wp2_with (fail); refine (wakes_any _ hE.glob).mono ?_; rintro e W2 ⟨rfl, hb⟩; go_wp2; go_ret; exact ⟨rfl, hE.base.trans (hb.mono hE.base.size)⟩)
  rw [q1]
  rintro e WC ⟨rfl, hb⟩
  have hE := hE.below hb
  clear hb hV hR HLK q1
  (clear k0 k1 k2 k3 k4 m0 m1 m2 m3 m4 m5; have k0 := hE.k0; have k1 := hE.k1; have k2 := hE.k2; have k3 := hE.k3; have k4 := hE.k4; have m0 := hE.m0; have m1 := hE.m1; have m2 := hE.m2; have m3 := hE.m3; have m4 := hE.m4; have m5 := hE.m5; dsimp only at k0 k1 k2 k3 k4 m0 m1 m2 m3 m4 m5)
  dsimp only [citeV]
  have Q4 := Lib.hid q4
  clear q4
  by_cases hst2 : s = 2
  · subst hst2
    have HD : dueOf ⟨n0, n1, n2, n3, ps⟩ ((2 : Nat) : Int) (d : Int) = (d : Int) := rfl
    rw [HD] at q3
    have Q3 := Lib.hid q3
    have Q4 := Lib.hid (fun more => HD ▸ Q4.out more)
    clear q3 HD
    (go_wp2_with (fail); refine (lvolume_any _ ⟨n0, n1, n2, n3, ps⟩ _ hE.vol hs).mono ?_; rintro e WV ⟨vv, rfl, hV, hb⟩; have hE := hE.below hb; (try (have hA := Rd.below hA hb)); clear hb; (clear k0 k1 k2 k3 k4 m0 m1 m2 m3 m4 m5; have k0 := hE.k0; have k1 := hE.k1; have k2 := hE.k2; have k3 := hE.k3; have k4 := hE.k4; have m0 := hE.m0; have m1 := hE.m1; have m2 := hE.m2; have m3 := hE.m3; have m4 := hE.m4; have m5 := hE.m5; dsimp only at k0 k1 k2 k3 k4 m0 m1 m2 m3 m4 m5))
    (go_wp2_with (fail); refine (lerrata_any _ er _ hE.err hq1).mono ?_; rintro e WR ⟨vr, rfl, hR, hb⟩; have hR := hR.rd; have hV := hV.below hb; have hE := hE.below hb; (try (have hA := Rd.below hA hb)); clear hb; (clear k0 k1 k2 k3 k4 m0 m1 m2 m3 m4 m5; have k0 := hE.k0; have k1 := hE.k1; have k2 := hE.k2; have k3 := hE.k3; have k4 := hE.k4; have m0 := hE.m0; have m1 := hE.m1; have m2 := hE.m2; have m3 := hE.m3; have m4 := hE.m4; have m5 := hE.m5; dsimp only at k0 k1 k2 k3 k4 m0 m1 m2 m3 m4 m5))
    go_wp2_with (fail)
    refine (Resolve_any _ _ ⟨n0, n1, n2, n3, ps⟩ er cc _ hV hs hR hl1 hf1 q2 hE.glob).mono ?_
    rw [Q3.out]
    rintro e WX ⟨rfl, hb⟩
    have hE := hE.below hb
    clear hb hV hR Q3
    (clear k0 k1 k2 k3 k4 m0 m1 m2 m3 m4 m5; have k0 := hE.k0; have k1 := hE.k1; have k2 := hE.k2; have k3 := hE.k3; have k4 := hE.k4; have m0 := hE.m0; have m1 := hE.m1; have m2 := hE.m2; have m3 := hE.m3; have m4 := hE.m4; have m5 := hE.m5; dsimp only at k0 k1 k2 k3 k4 m0 m1 m2 m3 m4 m5)
    dsimp only [resolveV]
    go_wp2_with (fail)
    have he0 := hE.err
    have M1 := more1 WX ⟨y0, y1, y2, y3, y4, y5⟩ er (.slice A0 er.length c0) he0
    have M2 := more2 WX ⟨y0, y1, y2, y3, y4, y5⟩ er (.slice A0 er.length c0) he0
    have M3 := more3 WX ⟨y0, y1, y2, y3, y4, y5⟩ er (.slice A0 er.length c0) he0
    have hz1 : (([] : List Err).length + er.length) * 56 ≤ 140737488355328 := by simp; omega
    have hz2 : (er.length + [(⟨y0, y1, y2, y3, y4, y5⟩ : Err)].length) * 56 ≤ 140737488355328 := by simp; omega
    have HE := Lib.hid hE
    have CELLS : Hid (∀ W, Below WX.heap.size WX W → W.cell? ⟨w.heap.size + 1, 0, none⟩ = some (.int .i64 y0) ∧ W.cell? ⟨w.heap.size + 1, 1, none⟩ = some (.int .i64 y1) ∧ W.cell? ⟨w.heap.size + 1, 2, none⟩ = some (.int .u8 y2) ∧ W.cell? ⟨w.heap.size + 1, 3, none⟩ = some (.int .i64 y3) ∧ W.cell? ⟨w.heap.size + 1, 4, none⟩ = some (.string y4) ∧ W.cell? ⟨w.heap.size + 1, 5, none⟩ = some (.int .i64 y5)) := Lib.hid fun W h => by
      have h2 := HE.out.below h
      exact ⟨h2.m0, h2.m1, h2.m2, h2.m3, h2.m4, h2.m5⟩
    clear hE he0
    go_cut [23] from 102 to 107 (fun s23 wx => Aside (Own EE 27 wx WX.heap.size s23 (er ++ [⟨y0, y1, y2, y3, y4, y5⟩]) ∧ Below WX.heap.size WX wx))
    case first =>
      clear k0 k1 k2 k3 k4 HE
      go_region_held3 (fun w' => w'.cell? ⟨w.heap.size + 1, 0, none⟩ = some (.int .i64 y0) ∧ w'.cell? ⟨w.heap.size + 1, 1, none⟩ = some (.int .i64 y1) ∧ w'.cell? ⟨w.heap.size + 1, 2, none⟩ = some (.int .u8 y2) ∧ w'.cell? ⟨w.heap.size + 1, 3, none⟩ = some (.int .i64 y3) ∧ w'.cell? ⟨w.heap.size + 1, 4, none⟩ = some (.string y4) ∧ w'.cell? ⟨w.heap.size + 1, 5, none⟩ = some (.int .i64 y5)) (go_keep)
        (first
          | (refine step_append_rd EE WX.heap.size (by rfl) _ _ 25 27 _ 56 (by rfl) Tryz.underlying25 Tryz.infoRErr rfl (by decide) (.slice (some ⟨WX.heap.size + 1, 0, none⟩) 0 0) (.slice A0 er.length c0) [] er rfl rfl M1.own M1.rd M1.base hz1 ?_; intro v1 w1 hO1 hg1 hb1 hat1; have KR := kept1 (y := ⟨y0, y1, y2, y3, y4, y5⟩) hg1; have hB1 := ((((Below.refl WX.heap.size WX).alloc (Nat.le_refl _) _).alloc (by simp) _).drewN 1).trans hb1; obtain ⟨x0, x1, x2, x3, x4, x5⟩ := CELLS.out w1 hB1; clear M1 M2 M3)
          | (refine step_append_rd EE WX.heap.size (by rfl) _ _ 25 27 _ 56 (by rfl) Tryz.underlying25 Tryz.infoRErr rfl (by decide) (.slice (some ⟨WX.heap.size, 0, none⟩) 0 0) (.slice A0 er.length c0) [] er rfl rfl M2.own M2.rd M2.base hz1 ?_; intro v1 w1 hO1 hg1 hb1 hat1; have KR := kept2 (y := ⟨y0, y1, y2, y3, y4, y5⟩) hg1; have hB1 := ((((Below.refl WX.heap.size WX).alloc (Nat.le_refl _) _).alloc (by simp) _).drewN 1).trans hb1; obtain ⟨x0, x1, x2, x3, x4, x5⟩ := CELLS.out w1 hB1; clear M1 M2 M3)
          | (refine step_append_rd EE WX.heap.size (by rfl) _ _ 25 27 _ 56 (by rfl) Tryz.underlying25 Tryz.infoRErr rfl (by decide) (.slice (some ⟨WX.heap.size, 0, none⟩) 0 0) (.slice A0 er.length c0) [] er rfl rfl M3.own M3.rd M3.base hz1 ?_; intro v1 w1 hO1 hg1 hb1 hat1; have hB1 := (((Below.refl WX.heap.size WX).alloc (Nat.le_refl _) _).drewN 1).trans hb1; obtain ⟨x0, x1, x2, x3, x4, x5⟩ := CELLS.out w1 hB1; have KR := err_block (y := ⟨y0, y1, y2, y3, y4, y5⟩) (World.alloc_heap_new w1 _); have hO1 := hO1.alloc (.cells (EE.f ⟨y0, y1, y2, y3, y4, y5⟩).toArray 27); have hB1 := hB1.alloc hB1.size (.cells (EE.f ⟨y0, y1, y2, y3, y4, y5⟩).toArray 27); clear M1 M2 M3)
          | (refine step_append_rd EE WX.heap.size (by rfl) _ _ 25 27 _ 56 (by rfl) Tryz.underlying25 Tryz.infoRErr rfl (by decide) v1 _ er [⟨y0, y1, y2, y3, y4, y5⟩] (by rfl) (by rfl) hO1 KR hB1.size hz2 ?_; intro v2 w2 hO2 hg2 hb2 hat2; have hB2 := hB1.trans hb2; obtain ⟨x0, x1, x2, x3, x4, x5⟩ := CELLS.out w2 hB2))
      all_goals (go_wp2_with fail; go_meet; exact ⟨hO2, hB2⟩)
    case rest =>
      obtain ⟨hO, hB⟩ := hcut.out
      clear hcut M1 M2 M3 CELLS hz1 hz2
      have hE := HE.out.below hB
      clear HE hB
      (clear k0 k1 k2 k3 k4 m0 m1 m2 m3 m4 m5; have k0 := hE.k0; have k1 := hE.k1; have k2 := hE.k2; have k3 := hE.k3; have k4 := hE.k4; have m0 := hE.m0; have m1 := hE.m1; have m2 := hE.m2; have m3 := hE.m3; have m4 := hE.m4; have m5 := hE.m5; dsimp only at k0 k1 k2 k3 k4 m0 m1 m2 m3 m4 m5)
      have hA : RdE wc _ (er ++ [(⟨y0, y1, y2, y3, y4, y5⟩ : Err)]) := hO.rd
      clear hO
      obtain ⟨A7, c7, rfl, -⟩ := id hA
      generalize (er ++ [(⟨y0, y1, y2, y3, y4, y5⟩ : Err)]).length = m9 at hA ⊢
      go_wp2_with (fail)
      refine (ready_any _ _ ⟨n0, n1, n2, n3, ps⟩ (er ++ [⟨y0, y1, y2, y3, y4, y5⟩]) _ hE.vol hA).mono ?_
      rintro e W1 ⟨⟨b, rfl, hn⟩, hb⟩
      have hE := hE.below hb
      have hA := Rd.below hA hb
      (clear k0 k1 k2 k3 k4 m0 m1 m2 m3 m4 m5; have k0 := hE.k0; have k1 := hE.k1; have k2 := hE.k2; have k3 := hE.k3; have k4 := hE.k4; have m0 := hE.m0; have m1 := hE.m1; have m2 := hE.m2; have m3 := hE.m3; have m4 := hE.m4; have m5 := hE.m5; dsimp only at k0 k1 k2 k3 k4 m0 m1 m2 m3 m4 m5)
      clear hb
      cases b
      · clear hn
        (go_wp2_with (fail); refine (wakes_any _ hE.glob).mono ?_; rintro e W2 ⟨rfl, hb⟩; go_wp2; go_ret; exact ⟨rfl, hE.base.trans (hb.mono hE.base.size)⟩)
      have hn2 := Lib.hid (hn rfl)
      clear hn
      have hq2 : (er ++ [(⟨y0, y1, y2, y3, y4, y5⟩ : Err)]).length ≤ 1000000 := Nat.le_trans hn2.out.1.errs (by decide)
      have hl2 : (er ++ [(⟨y0, y1, y2, y3, y4, y5⟩ : Err)]).length ≤ 1000 := Nat.le_trans hn2.out.1.errs (by decide)
      have hf2 : Hid (∀ z ∈ er ++ [(⟨y0, y1, y2, y3, y4, y5⟩ : Err)], z.fits) := Lib.hid fun z hz => Nat.le_trans (hn2.out.1.small.2.2 z hz) (by decide)
      by_cases p1 : y1 ≤ n1
      · (go_wp2_with (fail); refine (wakes_any _ hE.glob).mono ?_; rintro e W2 ⟨rfl, hb⟩; go_wp2; go_ret; exact ⟨rfl, hE.base.trans (hb.mono hE.base.size)⟩)
      by_cases p2 : y1 ≤ (d : Int)
      · (go_wp2_with (fail); refine (wakes_any _ hE.glob).mono ?_; rintro e W2 ⟨rfl, hb⟩; go_wp2; go_ret; exact ⟨rfl, hE.base.trans (hb.mono hE.base.size)⟩)
      have HR2 := Lib.hid (Q4.out ⟨y0, y1, y2, y3, y4, y5⟩ hn2.out.2.2 (Int.not_le.1 p1) (Int.not_le.1 p2))
      (go_wp2_with (fail); refine (lvolume_any _ ⟨n0, n1, n2, n3, ps⟩ _ hE.vol hs).mono ?_; rintro e WV ⟨vv, rfl, hV, hb⟩; have hE := hE.below hb; (try (have hA := Rd.below hA hb)); clear hb; (clear k0 k1 k2 k3 k4 m0 m1 m2 m3 m4 m5; have k0 := hE.k0; have k1 := hE.k1; have k2 := hE.k2; have k3 := hE.k3; have k4 := hE.k4; have m0 := hE.m0; have m1 := hE.m1; have m2 := hE.m2; have m3 := hE.m3; have m4 := hE.m4; have m5 := hE.m5; dsimp only at k0 k1 k2 k3 k4 m0 m1 m2 m3 m4 m5))
      (go_wp2_with (fail); refine (lerrata_any _ (er ++ [(⟨y0, y1, y2, y3, y4, y5⟩ : Err)]) _ hA hq2).mono ?_; rintro e WR ⟨vr, rfl, hR, hb⟩; have hR := hR.rd; have hV := hV.below hb; have hE := hE.below hb; have hA := Rd.below hA hb; clear hb; (clear k0 k1 k2 k3 k4 m0 m1 m2 m3 m4 m5; have k0 := hE.k0; have k1 := hE.k1; have k2 := hE.k2; have k3 := hE.k3; have k4 := hE.k4; have m0 := hE.m0; have m1 := hE.m1; have m2 := hE.m2; have m3 := hE.m3; have m4 := hE.m4; have m5 := hE.m5; dsimp only at k0 k1 k2 k3 k4 m0 m1 m2 m3 m4 m5))
      go_wp2_with (fail)
      refine (Resolve_any _ _ ⟨n0, n1, n2, n3, ps⟩ (er ++ [(⟨y0, y1, y2, y3, y4, y5⟩ : Err)]) cc _ hV hs hR hl2 hf2.out q2 hE.glob).mono ?_
      rw [HR2.out]
      rintro e WZ ⟨rfl, hb⟩
      have hE := hE.below hb
      clear hb hV hR HR2
      (clear k0 k1 k2 k3 k4 m0 m1 m2 m3 m4 m5; have k0 := hE.k0; have k1 := hE.k1; have k2 := hE.k2; have k3 := hE.k3; have k4 := hE.k4; have m0 := hE.m0; have m1 := hE.m1; have m2 := hE.m2; have m3 := hE.m3; have m4 := hE.m4; have m5 := hE.m5; dsimp only at k0 k1 k2 k3 k4 m0 m1 m2 m3 m4 m5)
      dsimp only [resolveV]
      (go_wp2_with (fail); refine (wakes_any _ hE.glob).mono ?_; rintro e W2 ⟨rfl, hb⟩; go_wp2; go_ret; exact ⟨rfl, hE.base.trans (hb.mono hE.base.size)⟩)
  · have hsb : ((s : Int) == 2) = false := by simp; omega
    have HD : dueOf ⟨n0, n1, n2, n3, ps⟩ (s : Int) (d : Int) = n1 := by unfold dueOf; rw [if_neg (by omega)]
    rw [HD] at q3
    have Q3 := Lib.hid q3
    have Q4 := Lib.hid (fun more => HD ▸ Q4.out more)
    clear q3 HD
    (go_wp2_with (fail); refine (lvolume_any _ ⟨n0, n1, n2, n3, ps⟩ _ hE.vol hs).mono ?_; rintro e WV ⟨vv, rfl, hV, hb⟩; have hE := hE.below hb; (try (have hA := Rd.below hA hb)); clear hb; (clear k0 k1 k2 k3 k4 m0 m1 m2 m3 m4 m5; have k0 := hE.k0; have k1 := hE.k1; have k2 := hE.k2; have k3 := hE.k3; have k4 := hE.k4; have m0 := hE.m0; have m1 := hE.m1; have m2 := hE.m2; have m3 := hE.m3; have m4 := hE.m4; have m5 := hE.m5; dsimp only at k0 k1 k2 k3 k4 m0 m1 m2 m3 m4 m5))
    (go_wp2_with (fail); refine (lerrata_any _ er _ hE.err hq1).mono ?_; rintro e WR ⟨vr, rfl, hR, hb⟩; have hR := hR.rd; have hV := hV.below hb; have hE := hE.below hb; (try (have hA := Rd.below hA hb)); clear hb; (clear k0 k1 k2 k3 k4 m0 m1 m2 m3 m4 m5; have k0 := hE.k0; have k1 := hE.k1; have k2 := hE.k2; have k3 := hE.k3; have k4 := hE.k4; have m0 := hE.m0; have m1 := hE.m1; have m2 := hE.m2; have m3 := hE.m3; have m4 := hE.m4; have m5 := hE.m5; dsimp only at k0 k1 k2 k3 k4 m0 m1 m2 m3 m4 m5))
    go_wp2_with (fail)
    refine (Resolve_any _ _ ⟨n0, n1, n2, n3, ps⟩ er cc _ hV hs hR hl1 hf1 q2 hE.glob).mono ?_
    rw [Q3.out]
    rintro e WX ⟨rfl, hb⟩
    have hE := hE.below hb
    clear hb hV hR Q3
    (clear k0 k1 k2 k3 k4 m0 m1 m2 m3 m4 m5; have k0 := hE.k0; have k1 := hE.k1; have k2 := hE.k2; have k3 := hE.k3; have k4 := hE.k4; have m0 := hE.m0; have m1 := hE.m1; have m2 := hE.m2; have m3 := hE.m3; have m4 := hE.m4; have m5 := hE.m5; dsimp only at k0 k1 k2 k3 k4 m0 m1 m2 m3 m4 m5)
    dsimp only [resolveV]
    go_wp2_with (fail)
    have he0 := hE.err
    have M1 := more1 WX ⟨y0, y1, y2, y3, y4, y5⟩ er (.slice A0 er.length c0) he0
    have M2 := more2 WX ⟨y0, y1, y2, y3, y4, y5⟩ er (.slice A0 er.length c0) he0
    have M3 := more3 WX ⟨y0, y1, y2, y3, y4, y5⟩ er (.slice A0 er.length c0) he0
    have hz1 : (([] : List Err).length + er.length) * 56 ≤ 140737488355328 := by simp; omega
    have hz2 : (er.length + [(⟨y0, y1, y2, y3, y4, y5⟩ : Err)].length) * 56 ≤ 140737488355328 := by simp; omega
    have HE := Lib.hid hE
    have CELLS : Hid (∀ W, Below WX.heap.size WX W → W.cell? ⟨w.heap.size + 1, 0, none⟩ = some (.int .i64 y0) ∧ W.cell? ⟨w.heap.size + 1, 1, none⟩ = some (.int .i64 y1) ∧ W.cell? ⟨w.heap.size + 1, 2, none⟩ = some (.int .u8 y2) ∧ W.cell? ⟨w.heap.size + 1, 3, none⟩ = some (.int .i64 y3) ∧ W.cell? ⟨w.heap.size + 1, 4, none⟩ = some (.string y4) ∧ W.cell? ⟨w.heap.size + 1, 5, none⟩ = some (.int .i64 y5)) := Lib.hid fun W h => by
      have h2 := HE.out.below h
      exact ⟨h2.m0, h2.m1, h2.m2, h2.m3, h2.m4, h2.m5⟩
    clear hE he0
    go_cut [23] from 102 to 107 (fun s23 wx => Aside (Own EE 27 wx WX.heap.size s23 (er ++ [⟨y0, y1, y2, y3, y4, y5⟩]) ∧ Below WX.heap.size WX wx))
    case first =>
      clear k0 k1 k2 k3 k4 HE
      go_region_held3 (fun w' => w'.cell? ⟨w.heap.size + 1, 0, none⟩ = some (.int .i64 y0) ∧ w'.cell? ⟨w.heap.size + 1, 1, none⟩ = some (.int .i64 y1) ∧ w'.cell? ⟨w.heap.size + 1, 2, none⟩ = some (.int .u8 y2) ∧ w'.cell? ⟨w.heap.size + 1, 3, none⟩ = some (.int .i64 y3) ∧ w'.cell? ⟨w.heap.size + 1, 4, none⟩ = some (.string y4) ∧ w'.cell? ⟨w.heap.size + 1, 5, none⟩ = some (.int .i64 y5)) (go_keep)
        (first
          | (refine step_append_rd EE WX.heap.size (by rfl) _ _ 25 27 _ 56 (by rfl) Tryz.underlying25 Tryz.infoRErr rfl (by decide) (.slice (some ⟨WX.heap.size + 1, 0, none⟩) 0 0) (.slice A0 er.length c0) [] er rfl rfl M1.own M1.rd M1.base hz1 ?_; intro v1 w1 hO1 hg1 hb1 hat1; have KR := kept1 (y := ⟨y0, y1, y2, y3, y4, y5⟩) hg1; have hB1 := ((((Below.refl WX.heap.size WX).alloc (Nat.le_refl _) _).alloc (by simp) _).drewN 1).trans hb1; obtain ⟨x0, x1, x2, x3, x4, x5⟩ := CELLS.out w1 hB1; clear M1 M2 M3)
          | (refine step_append_rd EE WX.heap.size (by rfl) _ _ 25 27 _ 56 (by rfl) Tryz.underlying25 Tryz.infoRErr rfl (by decide) (.slice (some ⟨WX.heap.size, 0, none⟩) 0 0) (.slice A0 er.length c0) [] er rfl rfl M2.own M2.rd M2.base hz1 ?_; intro v1 w1 hO1 hg1 hb1 hat1; have KR := kept2 (y := ⟨y0, y1, y2, y3, y4, y5⟩) hg1; have hB1 := ((((Below.refl WX.heap.size WX).alloc (Nat.le_refl _) _).alloc (by simp) _).drewN 1).trans hb1; obtain ⟨x0, x1, x2, x3, x4, x5⟩ := CELLS.out w1 hB1; clear M1 M2 M3)
          | (refine step_append_rd EE WX.heap.size (by rfl) _ _ 25 27 _ 56 (by rfl) Tryz.underlying25 Tryz.infoRErr rfl (by decide) (.slice (some ⟨WX.heap.size, 0, none⟩) 0 0) (.slice A0 er.length c0) [] er rfl rfl M3.own M3.rd M3.base hz1 ?_; intro v1 w1 hO1 hg1 hb1 hat1; have hB1 := (((Below.refl WX.heap.size WX).alloc (Nat.le_refl _) _).drewN 1).trans hb1; obtain ⟨x0, x1, x2, x3, x4, x5⟩ := CELLS.out w1 hB1; have KR := err_block (y := ⟨y0, y1, y2, y3, y4, y5⟩) (World.alloc_heap_new w1 _); have hO1 := hO1.alloc (.cells (EE.f ⟨y0, y1, y2, y3, y4, y5⟩).toArray 27); have hB1 := hB1.alloc hB1.size (.cells (EE.f ⟨y0, y1, y2, y3, y4, y5⟩).toArray 27); clear M1 M2 M3)
          | (refine step_append_rd EE WX.heap.size (by rfl) _ _ 25 27 _ 56 (by rfl) Tryz.underlying25 Tryz.infoRErr rfl (by decide) v1 _ er [⟨y0, y1, y2, y3, y4, y5⟩] (by rfl) (by rfl) hO1 KR hB1.size hz2 ?_; intro v2 w2 hO2 hg2 hb2 hat2; have hB2 := hB1.trans hb2; obtain ⟨x0, x1, x2, x3, x4, x5⟩ := CELLS.out w2 hB2))
      all_goals (go_wp2_with fail; go_meet; exact ⟨hO2, hB2⟩)
    case rest =>
      obtain ⟨hO, hB⟩ := hcut.out
      clear hcut M1 M2 M3 CELLS hz1 hz2
      have hE := HE.out.below hB
      clear HE hB
      (clear k0 k1 k2 k3 k4 m0 m1 m2 m3 m4 m5; have k0 := hE.k0; have k1 := hE.k1; have k2 := hE.k2; have k3 := hE.k3; have k4 := hE.k4; have m0 := hE.m0; have m1 := hE.m1; have m2 := hE.m2; have m3 := hE.m3; have m4 := hE.m4; have m5 := hE.m5; dsimp only at k0 k1 k2 k3 k4 m0 m1 m2 m3 m4 m5)
      have hA : RdE wc _ (er ++ [(⟨y0, y1, y2, y3, y4, y5⟩ : Err)]) := hO.rd
      clear hO
      obtain ⟨A7, c7, rfl, -⟩ := id hA
      generalize (er ++ [(⟨y0, y1, y2, y3, y4, y5⟩ : Err)]).length = m9 at hA ⊢
      go_wp2_with (fail)
      refine (ready_any _ _ ⟨n0, n1, n2, n3, ps⟩ (er ++ [⟨y0, y1, y2, y3, y4, y5⟩]) _ hE.vol hA).mono ?_
      rintro e W1 ⟨⟨b, rfl, hn⟩, hb⟩
      have hE := hE.below hb
      have hA := Rd.below hA hb
      (clear k0 k1 k2 k3 k4 m0 m1 m2 m3 m4 m5; have k0 := hE.k0; have k1 := hE.k1; have k2 := hE.k2; have k3 := hE.k3; have k4 := hE.k4; have m0 := hE.m0; have m1 := hE.m1; have m2 := hE.m2; have m3 := hE.m3; have m4 := hE.m4; have m5 := hE.m5; dsimp only at k0 k1 k2 k3 k4 m0 m1 m2 m3 m4 m5)
      clear hb
      cases b
      · clear hn
        (go_wp2_with (fail); refine (wakes_any _ hE.glob).mono ?_; rintro e W2 ⟨rfl, hb⟩; go_wp2; go_ret; exact ⟨rfl, hE.base.trans (hb.mono hE.base.size)⟩)
      have hn2 := Lib.hid (hn rfl)
      clear hn
      have hq2 : (er ++ [(⟨y0, y1, y2, y3, y4, y5⟩ : Err)]).length ≤ 1000000 := Nat.le_trans hn2.out.1.errs (by decide)
      have hl2 : (er ++ [(⟨y0, y1, y2, y3, y4, y5⟩ : Err)]).length ≤ 1000 := Nat.le_trans hn2.out.1.errs (by decide)
      have hf2 : Hid (∀ z ∈ er ++ [(⟨y0, y1, y2, y3, y4, y5⟩ : Err)], z.fits) := Lib.hid fun z hz => Nat.le_trans (hn2.out.1.small.2.2 z hz) (by decide)
      by_cases p1 : y1 ≤ n1
      · (go_wp2_with (fail); refine (wakes_any _ hE.glob).mono ?_; rintro e W2 ⟨rfl, hb⟩; go_wp2; go_ret; exact ⟨rfl, hE.base.trans (hb.mono hE.base.size)⟩)
      have HR2 := Lib.hid (Q4.out ⟨y0, y1, y2, y3, y4, y5⟩ hn2.out.2.2 (Int.not_le.1 p1) (Int.not_le.1 p1))
      (go_wp2_with (fail); refine (lvolume_any _ ⟨n0, n1, n2, n3, ps⟩ _ hE.vol hs).mono ?_; rintro e WV ⟨vv, rfl, hV, hb⟩; have hE := hE.below hb; (try (have hA := Rd.below hA hb)); clear hb; (clear k0 k1 k2 k3 k4 m0 m1 m2 m3 m4 m5; have k0 := hE.k0; have k1 := hE.k1; have k2 := hE.k2; have k3 := hE.k3; have k4 := hE.k4; have m0 := hE.m0; have m1 := hE.m1; have m2 := hE.m2; have m3 := hE.m3; have m4 := hE.m4; have m5 := hE.m5; dsimp only at k0 k1 k2 k3 k4 m0 m1 m2 m3 m4 m5))
      (go_wp2_with (fail); refine (lerrata_any _ (er ++ [(⟨y0, y1, y2, y3, y4, y5⟩ : Err)]) _ hA hq2).mono ?_; rintro e WR ⟨vr, rfl, hR, hb⟩; have hR := hR.rd; have hV := hV.below hb; have hE := hE.below hb; have hA := Rd.below hA hb; clear hb; (clear k0 k1 k2 k3 k4 m0 m1 m2 m3 m4 m5; have k0 := hE.k0; have k1 := hE.k1; have k2 := hE.k2; have k3 := hE.k3; have k4 := hE.k4; have m0 := hE.m0; have m1 := hE.m1; have m2 := hE.m2; have m3 := hE.m3; have m4 := hE.m4; have m5 := hE.m5; dsimp only at k0 k1 k2 k3 k4 m0 m1 m2 m3 m4 m5))
      go_wp2_with (fail)
      refine (Resolve_any _ _ ⟨n0, n1, n2, n3, ps⟩ (er ++ [(⟨y0, y1, y2, y3, y4, y5⟩ : Err)]) cc _ hV hs hR hl2 hf2.out q2 hE.glob).mono ?_
      rw [HR2.out]
      rintro e WZ ⟨rfl, hb⟩
      have hE := hE.below hb
      clear hb hV hR HR2
      (clear k0 k1 k2 k3 k4 m0 m1 m2 m3 m4 m5; have k0 := hE.k0; have k1 := hE.k1; have k2 := hE.k2; have k3 := hE.k3; have k4 := hE.k4; have m0 := hE.m0; have m1 := hE.m1; have m2 := hE.m2; have m3 := hE.m3; have m4 := hE.m4; have m5 := hE.m5; dsimp only at k0 k1 k2 k3 k4 m0 m1 m2 m3 m4 m5)
      dsimp only [resolveV]
      (go_wp2_with (fail); refine (wakes_any _ hE.glob).mono ?_; rintro e W2 ⟨rfl, hb⟩; go_wp2; go_ret; exact ⟨rfl, hE.base.trans (hb.mono hE.base.size)⟩)
end Go.Proofs.YtjkmdpejcgepkaaGreatDoor
