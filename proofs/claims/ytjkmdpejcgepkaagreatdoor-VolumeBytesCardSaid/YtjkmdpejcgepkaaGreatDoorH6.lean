/- VolumeBytes: for the program. -/
import Derived.Test.YtjkmdpejcgepkaaGreatDoorEC
import Derived.Test.YtjkmdpejcgepkaaGreatDoorG6
import Derived.Test.YtjkmdpejcgepkaaGreatDoorJ6
import Derived.Deep.CutRange
namespace Go.Proofs.YtjkmdpejcgepkaaGreatDoor
open Go.RowKit
theorem first_places {x : Vol} {er : List Err} (h : checkE x er = 0) (n c l : Int) : (placesL x er).any (fun z => z.anchor == n && (z.column == c && z.line == l)) = firstP (printV x er) n c l := by
  have e : placesL x er = (printV x er).map Pr.plc := by unfold placesL; rw [if_pos h]
  rw [e]; unfold firstP; rw [List.any_map]; rfl
structure ThreeAt (b : Nat) (m0 m1 m2 : Int) (W : World) : Prop where
  c0 : W.cell? ⟨b, 0, none⟩ = some (.int .i64 m0)
  c1 : W.cell? ⟨b, 1, none⟩ = some (.int .i64 m1)
  c2 : W.cell? ⟨b, 2, none⟩ = some (.int .i64 m2)
  lt : b < W.heap.size
theorem ThreeAt.below {b : Nat} {m0 m1 m2 : Int} {W W' : World} (h : ThreeAt b m0 m1 m2 W) (hB : Below W.heap.size W W') : ThreeAt b m0 m1 m2 W' :=
  ⟨by rw [hB.cell (p := ⟨b, 0, none⟩) h.lt]; exact h.c0, by rw [hB.cell (p := ⟨b, 1, none⟩) h.lt]; exact h.c1, by rw [hB.cell (p := ⟨b, 2, none⟩) h.lt]; exact h.c2, Nat.lt_of_lt_of_le h.lt hB.size⟩
theorem ThreeAt.made (m0 m1 m2 : Int) (W : World) : ThreeAt W.heap.size m0 m1 m2 (W.alloc (.cells #[.int .i64 m0, .int .i64 m1, .int .i64 m2] 69)) :=
  ⟨by simp [go_sem], by simp [go_sem], by simp [go_sem], by simp⟩
theorem any_take {α : Type} (f : α → Bool) (l : List α) (k : Nat) (hk : k < l.length) (i : Bool) : (i || (l.take (k + 1)).any f) = ((i || (l.take k).any f) || f l[k]) := by
  rw [List.take_succ_eq_append_getElem hk, List.any_append]
  simp [Bool.or_assoc]
theorem print_anchor {x : Vol} {er : List Err} (h0 : checkVol x = 0) (h : EOk x er) {p : Pr} (hp : p ∈ printV x er) : -9223372036854775808 ≤ p.anchor ∧ p.anchor ≤ 9223372036854775807 := by
  have hck := check_of h0 h
  obtain ⟨i, hi, hpi⟩ := printL_mem (by unfold printV at hp; exact hp)
  have hz := check_sizes hck
  have htx2 : ∀ e ∈ (afterR x er x.bound).flatten, e.text.size ≤ 200 := fun e he => (textB_size (after_texts hck x.bound e he)).2
  obtain ⟨-, -, -, -, -, -, -, e, he, -, ha, -⟩ := rowPr_mem (m := 200) (by omega) (by omega) (by omega) _ (fun e he => htx2 e (List.mem_flatten.2 ⟨_, List.getElem_mem hi, he⟩)) (0, 0) ⟨by simp, by simp⟩ p hpi
  rw [ha]
  have := after_anchors hck x.bound e (List.mem_flatten.2 ⟨_, List.getElem_mem hi, he⟩)
  omega
set_option maxHeartbeats 8000000 in
set_option maxRecDepth 100000 in
theorem bytes_any (v ev : Value) (x : Vol) (er : List Err) (cite : ByteArray) (o1 o2 st : Nat) (w : World) (hv : IsVol w v x) (he : RdE w ev er) (ho1 : o1 ≤ 255) (ho2 : o2 ≤ 255) (_ : st ≤ 255) (hG : Glob w) :
    Calls Tryz.prog 8 #[v, ev, .string cite, .int .u8 o1, .int .u8 o2, .int .u8 st] w fun e w' => e = .returned (.bool true) ∧ Below w.heap.size w w' := by
  obtain ⟨sv, rfl, A, c, rfl, hx⟩ := id hv
  obtain ⟨A0, c0, rfl, -⟩ := id he
  obtain ⟨n0, n1, n2, n3, ps⟩ := x
  have hE := keep1_start w ⟨n0, n1, n2, n3, ps⟩ A c er _ hv he hG
  have k0 := hE.k0; have k1 := hE.k1; have k2 := hE.k2; have k3 := hE.k3; have k4 := hE.k4
  dsimp only [Vol.val] at k0 k1 k2 k3 k4 hE ⊢
  clear hv he hx hG
  by_cases hcs : cite.size ≤ 60
  case neg =>
    have hcs1 : ¬ ((cite.size : Int) ≤ 60) := by omega
    go_enter Tryz.func8, Tryz.ntmps8
    go_wp2_with (fail)
    refine (ready_any _ _ ⟨n0, n1, n2, n3, ps⟩ er _ hE.vol hE.err).mono ?_
    rintro e W1 ⟨⟨b, rfl, -⟩, hb⟩
    have hE := hE.below hb
    ((try clear k0 k1 k2 k3 k4); have k0 := hE.k0; have k1 := hE.k1; have k2 := hE.k2; have k3 := hE.k3; have k4 := hE.k4; dsimp only at k0 k1 k2 k3 k4)
    clear hb
    cases b
    · (go_wp2_with (fail); refine (wakes_any _ hE.glob).mono ?_; rintro e W2 ⟨rfl, hb⟩; go_wp2; go_ret; exact ⟨rfl, hE.base.trans (hb.mono hE.base.size)⟩)
    · (go_wp2_with (fail); refine (wakes_any _ hE.glob).mono ?_; rintro e W2 ⟨rfl, hb⟩; go_wp2; go_ret; exact ⟨rfl, hE.base.trans (hb.mono hE.base.size)⟩)
  have hcs1 : (cite.size : Int) ≤ 60 := by omega
  have hcs2 : cite.size ≤ 100000 := by omega
  have hcs3 : cite.size ≤ 1000 := by omega
  clear hcs
  go_enter Tryz.func8, Tryz.ntmps8
  go_wp2_with (fail)
  refine (ready_any _ _ ⟨n0, n1, n2, n3, ps⟩ er _ hE.vol hE.err).mono ?_
  rintro e W1 ⟨⟨b, rfl, hn⟩, hb⟩
  have hE := hE.below hb
  ((try clear k0 k1 k2 k3 k4); have k0 := hE.k0; have k1 := hE.k1; have k2 := hE.k2; have k3 := hE.k3; have k4 := hE.k4; dsimp only at k0 k1 k2 k3 k4)
  clear hb
  cases b
  · clear hn
    (go_wp2_with (fail); refine (wakes_any _ hE.glob).mono ?_; rintro e W2 ⟨rfl, hb⟩; go_wp2; go_ret; exact ⟨rfl, hE.base.trans (hb.mono hE.base.size)⟩)
  have hn1 := Lib.hid (hn rfl)
  clear hn
  obtain ⟨hs, -, ht⟩ := hn1.out.1.small
  have hq := hn1.out.1.errs
  have hq1 : er.length ≤ 1000000 := Nat.le_trans hq (by decide)
  have hl1 : er.length ≤ 1000 := Nat.le_trans hq (by decide)
  have hf1 : ∀ z ∈ er, z.fits := fun z hz => Nat.le_trans (ht z hz) (by decide)
  clear ht
  have HBL := Lib.hid (bytes_law hn1.out.2.1 hn1.out.2.2 hs cite)
  have HCK := Lib.hid (check_of hn1.out.2.1 hn1.out.2.2)
  (go_wp2_with (fail); refine (lvolume_any _ ⟨n0, n1, n2, n3, ps⟩ _ hE.vol hs).mono ?_; rintro e WV ⟨vv, rfl, hV, hb⟩; (have hE := hE.below hb; (try have hP := Rd.below hP hb); (try have hT3 := hT3.below hb); (try have hV := hV.below hb); clear hb; ((try clear k0 k1 k2 k3 k4); have k0 := hE.k0; have k1 := hE.k1; have k2 := hE.k2; have k3 := hE.k3; have k4 := hE.k4; dsimp only at k0 k1 k2 k3 k4)))
  (go_wp2_with (fail); refine (lerrata_any _ er _ hE.err hq1).mono ?_; rintro e WR ⟨vr, rfl, hR, hb⟩; have hR := hR.rd; (have hE := hE.below hb; (try have hP := Rd.below hP hb); (try have hT3 := hT3.below hb); (try have hV := hV.below hb); clear hb; ((try clear k0 k1 k2 k3 k4); have k0 := hE.k0; have k1 := hE.k1; have k2 := hE.k2; have k3 := hE.k3; have k4 := hE.k4; dsimp only at k0 k1 k2 k3 k4)))
  go_wp2_with (fail)
  refine (Resolve_any _ _ ⟨n0, n1, n2, n3, ps⟩ er cite _ hV hs hR hl1 hf1 hcs2 hE.glob).mono ?_
  generalize resolveE ⟨n0, n1, n2, n3, ps⟩ er cite.data.toList = rs at HBL
  rintro e WX ⟨rfl, hb⟩
  clear hV hR
  (have hE := hE.below hb; (try have hP := Rd.below hP hb); (try have hT3 := hT3.below hb); (try have hV := hV.below hb); clear hb; ((try clear k0 k1 k2 k3 k4); have k0 := hE.k0; have k1 := hE.k1; have k2 := hE.k2; have k3 := hE.k3; have k4 := hE.k4; dsimp only at k0 k1 k2 k3 k4))
  dsimp only [resolveV]
  (go_wp2_with (fail); refine (lvolume_any _ ⟨n0, n1, n2, n3, ps⟩ _ hE.vol hs).mono ?_; rintro e WV ⟨vv, rfl, hV, hb⟩; (have hE := hE.below hb; (try have hP := Rd.below hP hb); (try have hT3 := hT3.below hb); (try have hV := hV.below hb); clear hb; ((try clear k0 k1 k2 k3 k4); have k0 := hE.k0; have k1 := hE.k1; have k2 := hE.k2; have k3 := hE.k3; have k4 := hE.k4; dsimp only at k0 k1 k2 k3 k4)))
  (go_wp2_with (fail); refine (lerrata_any _ er _ hE.err hq1).mono ?_; rintro e WR ⟨vr, rfl, hR, hb⟩; have hR := hR.rd; (have hE := hE.below hb; (try have hP := Rd.below hP hb); (try have hT3 := hT3.below hb); (try have hV := hV.below hb); clear hb; ((try clear k0 k1 k2 k3 k4); have k0 := hE.k0; have k1 := hE.k1; have k2 := hE.k2; have k3 := hE.k3; have k4 := hE.k4; dsimp only at k0 k1 k2 k3 k4)))
  go_wp2_with (fail)
  refine (Print_any _ _ ⟨n0, n1, n2, n3, ps⟩ er _ hV hs hR hl1 hf1).mono ?_
  rw [HCK.out]
  rintro e WP ⟨v3, rfl, hO, hb⟩
  clear hV hR
  (have hE := hE.below hb; (try have hP := Rd.below hP hb); (try have hT3 := hT3.below hb); (try have hV := hV.below hb); clear hb; ((try clear k0 k1 k2 k3 k4); have k0 := hE.k0; have k1 := hE.k1; have k2 := hE.k2; have k3 := hE.k3; have k4 := hE.k4; dsimp only at k0 k1 k2 k3 k4))
  have hP := hO.rd
  clear hO
  have HPA := Lib.hid (fun j hj => place_at (x := ⟨n0, n1, n2, n3, ps⟩) (er := er) (j := j) hn1.out.2.1 hn1.out.2.2 hj)
  have HFP := Lib.hid (fun n c l => first_places (x := ⟨n0, n1, n2, n3, ps⟩) (er := er) HCK.out n c l)
  generalize hpl : placesL ⟨n0, n1, n2, n3, ps⟩ er = pl at hP
  have HPLQ := Lib.hid hpl
  clear hpl
  obtain ⟨A3, c3, rfl, hc3, hm3, hr3⟩ := id hP
  clear hr3
  rcases HBL.out with ⟨q, cc, n, dd, q1, q2, q3, q4, q5, q6⟩ | ⟨er0, q1, q2⟩
  · rw [q2]
    have HB6 := Lib.hid q6
    have hpq := parse_some q1
    clear q6 q1 q2 HBL
    dsimp only
    go_wp2_with (fail)
    refine (rparse_spell cite q hpq.2 hpq.1 hcs3 _).mono ?_
    rintro e WQ ⟨rfl, hb⟩
    (have hE := hE.below hb; (try have hP := Rd.below hP hb); (try have hT3 := hT3.below hb); (try have hV := hV.below hb); clear hb; ((try clear k0 k1 k2 k3 k4); have k0 := hE.k0; have k1 := hE.k1; have k2 := hE.k2; have k3 := hE.k3; have k4 := hE.k4; dsimp only at k0 k1 k2 k3 k4))
    obtain ⟨s0, qa, qb, qc⟩ := q
    dsimp only at q3 q5 HB6 hpq ⊢
    have hT3 := ThreeAt.made qa qb qc WQ
    have hb : Below WQ.heap.size WQ (WQ.alloc (.cells #[.int .i64 qa, .int .i64 qb, .int .i64 qc] 69)) := (Below.refl _ _).alloc (Nat.le_refl _) _
    have hE := hE.below hb
    have hP := Rd.below hP hb
    clear hb
    ((try clear k0 k1 k2 k3 k4); have k0 := hE.k0; have k1 := hE.k1; have k2 := hE.k2; have k3 := hE.k3; have k4 := hE.k4; dsimp only at k0 k1 k2 k3 k4)
    clear hpq HCK
    go_wp2_with (fail)
    obtain ⟨W5, hW5⟩ : ∃ W5, WQ.alloc (.cells #[.int .i64 qa, .int .i64 qb, .int .i64 qc] 69) = W5 := ⟨_, rfl⟩
    rw [hW5] at hE hP hT3 k0 k1 k2 k3 k4 ⊢
    clear hW5
    (go_wp2_with (fail); refine (lvolume_any _ ⟨n0, n1, n2, n3, ps⟩ _ hE.vol hs).mono ?_; rintro e WV ⟨vv, rfl, hV, hb⟩; (have hE := hE.below hb; (try have hP := Rd.below hP hb); (try have hT3 := hT3.below hb); (try have hV := hV.below hb); clear hb; ((try clear k0 k1 k2 k3 k4); have k0 := hE.k0; have k1 := hE.k1; have k2 := hE.k2; have k3 := hE.k3; have k4 := hE.k4; dsimp only at k0 k1 k2 k3 k4)))
    (go_wp2_with (fail); refine (lerrata_any _ er _ hE.err hq1).mono ?_; rintro e WR ⟨vr, rfl, hR, hb⟩; have hR := hR.rd; (have hE := hE.below hb; (try have hP := Rd.below hP hb); (try have hT3 := hT3.below hb); (try have hV := hV.below hb); clear hb; ((try clear k0 k1 k2 k3 k4); have k0 := hE.k0; have k1 := hE.k1; have k2 := hE.k2; have k3 := hE.k3; have k4 := hE.k4; dsimp only at k0 k1 k2 k3 k4)))
    go_wp2_with (fail)
    refine (Cite_any _ _ ⟨n0, n1, n2, n3, ps⟩ er n s0 dd _ hV hs hR hl1 hf1 (by omega) q4 hE.glob).mono ?_
    rw [q3]
    rintro e WC ⟨rfl, hb⟩
    clear hV hR q3
    (have hE := hE.below hb; (try have hP := Rd.below hP hb); (try have hT3 := hT3.below hb); (try have hV := hV.below hb); clear hb; ((try clear k0 k1 k2 k3 k4); have k0 := hE.k0; have k1 := hE.k1; have k2 := hE.k2; have k3 := hE.k3; have k4 := hE.k4; dsimp only at k0 k1 k2 k3 k4))
    dsimp only [citeV]
    have HE := Lib.hid hE
    have HP := Lib.hid hP
    have HT3 := Lib.hid hT3
    clear hE hP hT3 k0 k1 k2 k3 k4
    go_wp2_with (fail)
    go_loopg [23, 24] pl.length (fun gg s23 s24 wr => ∃ kk : Nat, ∃ bb : Bool, kk ≤ pl.length ∧ pl.length - kk ≤ gg ∧ s24 = .int .i64 kk ∧ s23 = .bool bb ∧ Aside (bb = (!(s0 == 0) || (pl.take kk).any (fun z => z.anchor == n && (z.column == qb && z.line == qc))) ∧ Below WC.heap.size WC wr))
    case atStart => exact ⟨0, _, Nat.zero_le _, by omega, rfl, rfl, by simp only [List.take_zero, List.any_nil, Bool.or_false]; rfl, Below.refl _ _⟩
    case round =>
      obtain ⟨kk, bb, hkk, hg, rfl, rfl, A2⟩ := hrel
      have hbb := A2.out.1
      have hBw := A2.out.2
      clear A2
      by_cases hlt : kk < pl.length
      · obtain ⟨A4, c4, e4, hc4, hm4, hr4⟩ := Rd.below HP.out hBw
        simp only [Value.slice.injEq] at e4
        obtain ⟨rfl, -, rfl⟩ := e4
        obtain ⟨b, off, rfl, hb9, hrow⟩ := hr4 (by omega)
        clear hr4
        have g1 := hrow kk hlt 0 _ rfl
        have g2 := hrow kk hlt 1 _ rfl
        have g3 := hrow kk hlt 2 _ rfl
        have hT3 := HT3.out.below hBw
        have c1 := hT3.c1
        have c2 := hT3.c2
        clear hrow hT3
        simp only [Nat.add_zero, show EPl.k = 4 from rfl] at g1 g2 g3
        have HNX := any_take (fun z : Plc => z.anchor == n && (z.column == qb && z.line == qc)) pl kk hlt (!(s0 == 0))
        rw [← hbb] at HNX
        generalize pl[kk] = y at g1 g2 g3 HNX
        obtain ⟨y0, y1, y2, y3⟩ := y
        dsimp only at g1 g2 g3 HNX
        have HNX := Lib.hid HNX
        have HBw := Lib.hid hBw
        clear hBw hbb
        have i1 : (0 : Int) ≤ (kk : Int) := by omega
        have i2 : (kk : Int) < (pl.length : Int) := by omega
        cases bb
        · cases b1 : (y0 == n)
          · have HN : Hid (false = (!(s0 == 0) || (pl.take (kk + 1)).any (fun z => z.anchor == n && (z.column == qb && z.line == qc)))) := Lib.hid (by rw [HNX.out, b1]; rfl)
            clear HNX
            go_wp2_with (fail)
            go_quiet (skip)
            go_wp2_with (fail)
            go_roundg (pl.length - (kk + 1))
            case measure => exact measU hg hlt
            case rel => exact ⟨kk + 1, _, hlt, Nat.le_refl _, by go_num, rfl, HN.out, HBw.out.drewN _⟩
          cases b2 : (y1 == qb)
          · have HN : Hid (false = (!(s0 == 0) || (pl.take (kk + 1)).any (fun z => z.anchor == n && (z.column == qb && z.line == qc)))) := Lib.hid (by rw [HNX.out, b1, b2]; rfl)
            clear HNX
            go_wp2_with (fail)
            go_quiet (skip)
            go_wp2_with (fail)
            go_roundg (pl.length - (kk + 1))
            case measure => exact measU hg hlt
            case rel => exact ⟨kk + 1, _, hlt, Nat.le_refl _, by go_num, rfl, HN.out, HBw.out.drewN _⟩
          have HN : Hid ((y2 == qc) = (!(s0 == 0) || (pl.take (kk + 1)).any (fun z => z.anchor == n && (z.column == qb && z.line == qc)))) := Lib.hid (by rw [HNX.out, b1, b2]; rfl)
          clear HNX
          go_wp2_with (fail)
          go_quiet (skip)
          go_wp2_with (fail)
          go_roundg (pl.length - (kk + 1))
          case measure => exact measU hg hlt
          case rel => exact ⟨kk + 1, _, hlt, Nat.le_refl _, by go_num, rfl, HN.out, HBw.out.drewN _⟩
        · have HN : Hid (true = (!(s0 == 0) || (pl.take (kk + 1)).any (fun z => z.anchor == n && (z.column == qb && z.line == qc)))) := Lib.hid (by rw [HNX.out]; rfl)
          clear HNX
          go_wp2_with (fail)
          go_quiet (skip)
          go_wp2_with (fail)
          go_roundg (pl.length - (kk + 1))
          case measure => exact measU hg hlt
          case rel => exact ⟨kk + 1, _, hlt, Nat.le_refl _, by go_num, rfl, HN.out, HBw.out.drewN _⟩
      · have hke : kk = pl.length := by omega
        subst hke
        clear hlt hkk hg
        have hbc : bb = true ↔ cc = cite := by
          rw [hbb, List.take_length, ← HPLQ.out, HFP.out]
          exact HB6.out
        have hbx : (cc.toList == cite.toList) = bb := by
          rw [Lib.toList_data, Lib.toList_data]
          cases bb
          · simp only [beq_eq_false_iff_ne, ne_eq]
            exact fun h => absurd (hbc.2 (ba_of_toList h)) (by decide)
          · rw [hbc.1 rfl]; simp
        have hE := HE.out.below hBw
        have hP := Rd.below HP.out hBw
        ((try clear k0 k1 k2 k3 k4); have k0 := hE.k0; have k1 := hE.k1; have k2 := hE.k2; have k3 := hE.k3; have k4 := hE.k4; dsimp only at k0 k1 k2 k3 k4)
        clear hbb hbc HB6 HFP HE HP HT3 hBw
        by_cases hz : pl.length = 0
        · obtain rfl : pl = [] := List.eq_nil_of_length_eq_zero hz
          clear hz
          (go_wp2_with (fail); refine (wakes_any _ hE.glob).mono ?_; rintro e W2 ⟨rfl, hb⟩; go_wp2; go_ret; exact ⟨rfl, hE.base.trans (hb.mono hE.base.size)⟩)
        have hlp : 0 < pl.length := Nat.pos_of_ne_zero hz
        have hzb : ((pl.length : Int) == 0) = false := by simpa using hz
        obtain ⟨A4, c4, e4, hc4, hm4, hr4⟩ := id hP
        simp only [Value.slice.injEq] at e4
        obtain ⟨rfl, -, rfl⟩ := e4
        obtain ⟨b, off, rfl, hb9, hrow⟩ := hr4 hlp
        clear hr4 hz
        have hj1 := Nat.mod_lt o1 hlp
        have hj2 := Nat.mod_lt o2 hlp
        have g1 : wr.cell? ⟨b, off + o1 % pl.length * 4, none⟩ = some (.int .i64 pl[o1 % pl.length].anchor) := hrow (o1 % pl.length) hj1 0 _ rfl
        have g2 : wr.cell? ⟨b, off + o2 % pl.length * 4, none⟩ = some (.int .i64 pl[o2 % pl.length].anchor) := hrow (o2 % pl.length) hj2 0 _ rfl
        have ha1 : ∃ p ∈ printV ⟨n0, n1, n2, n3, ps⟩ er, pl[o1 % pl.length].anchor = p.anchor := by
          have h := HPA.out (o1 % pl.length)
          simp only [HPLQ.out] at h
          exact h hj1
        have ha2 : ∃ p ∈ printV ⟨n0, n1, n2, n3, ps⟩ er, pl[o2 % pl.length].anchor = p.anchor := by
          have h := HPA.out (o2 % pl.length)
          simp only [HPLQ.out] at h
          exact h hj2
        clear hrow HPA HPLQ
        have mm1 : (o1 : Int) % (pl.length : Int) = ((o1 % pl.length : Nat) : Int) := rfl
        have mt1 : (o1 : Int).tmod (pl.length : Int) = ((o1 % pl.length : Nat) : Int) := rfl
        have mm2 : (o2 : Int) % (pl.length : Int) = ((o2 % pl.length : Nat) : Int) := rfl
        have mt2 : (o2 : Int).tmod (pl.length : Int) = ((o2 % pl.length : Nat) : Int) := rfl
        generalize pl[o1 % pl.length].anchor = a1 at g1 ha1
        generalize pl[o2 % pl.length].anchor = a2 at g2 ha2
        generalize o1 % pl.length = j1 at g1 mm1 mt1 hj1
        generalize o2 % pl.length = j2 at g2 mm2 mt2 hj2
        have hnl : ¬ pl = [] := fun h => by rw [h] at hlp; exact absurd hlp (by decide)
        have hnz : ¬ ((pl.length : Int) = 0) := by omega
        have hwo1 : IntKind.i64.wrap (o1 : Int) = (o1 : Int) := by rw [IntKind.wrap_i64]; omega
        have hwo2 : IntKind.i64.wrap (o2 : Int) = (o2 : Int) := by rw [IntKind.wrap_i64]; omega
        have i1 : (0 : Int) ≤ (j1 : Int) := by omega
        have i2 : (j1 : Int) < (pl.length : Int) := by omega
        have i3 : (0 : Int) ≤ (j2 : Int) := by omega
        have i4 : (j2 : Int) < (pl.length : Int) := by omega
        clear hP
        go_wp2_with (fail)
        go_cut [25, 26] from 139 to 156 (fun s25 s26 wx => s25 = .int .i64 a1 ∧ s26 = .int .i64 a2 ∧ Aside (Below wr.heap.size wr wx))
        case first =>
          clear k0 k1 k2 k3 k4
          go_quiet (skip)
          go_wp2_with (fail)
          go_meet
          exact ⟨rfl, rfl, (Below.refl _ _).drewN _⟩
        case rest =>
          obtain ⟨rfl, rfl, hcut⟩ := hcut
          have hb := hcut.out
          clear hcut g1 g2 i1 i2 i3 i4 mm1 mm2 mt1 mt2 hwo1 hwo2 hnl hnz
          (have hE := hE.below hb; (try have hP := Rd.below hP hb); (try have hT3 := hT3.below hb); (try have hV := hV.below hb); clear hb; ((try clear k0 k1 k2 k3 k4); have k0 := hE.k0; have k1 := hE.k1; have k2 := hE.k2; have k3 := hE.k3; have k4 := hE.k4; dsimp only at k0 k1 k2 k3 k4))
          obtain ⟨p1, hp1, e1⟩ := ha1
          obtain ⟨p2, hp2, e2⟩ := ha2
          have hsr := Nat.mod_lt st (show 0 < 2 by decide)
          have hms : (st : Int) % 2 = ((st % 2 : Nat) : Int) := rfl
          have hmt : (st : Int).tmod 2 = ((st % 2 : Nat) : Int) := rfl
          generalize st % 2 = s at hsr hms hmt
          have hs0 : (0 : Int) ≤ (s : Int) := by omega
          have hs1 : (s : Int) ≤ 1 := by omega
          have C1 := cite_place hn1.out.2.1 hn1.out.2.2 hp1 s 0 hs0 hs1
          have C2 := cite_place hn1.out.2.1 hn1.out.2.2 hp2 s 0 hs0 hs1
          have CS := cites_same hn1.out.2.1 hn1.out.2.2 hs hp1 hp2 s
          have t1 := print_anchor hn1.out.2.1 hn1.out.2.2 hp1
          have t2 := print_anchor hn1.out.2.1 hn1.out.2.2 hp2
          rw [← e1] at C1 CS t1
          rw [← e2] at C2 CS t2
          clear e1 e2 hp1 hp2 hs1
          generalize citeP (⟨n0, n1, n2, n3, ps⟩ : Vol).number s p1 = ct1 at C1 CS
          generalize citeP (⟨n0, n1, n2, n3, ps⟩ : Vol).number s p2 = ct2 at C2 CS
          have HC1 := Lib.hid C1
          have HC2 := Lib.hid C2
          have HCS := Lib.hid CS
          clear C1 C2 CS
          (go_wp2_with (fail); refine (lvolume_any _ ⟨n0, n1, n2, n3, ps⟩ _ hE.vol hs).mono ?_; rintro e WV ⟨vv, rfl, hV, hb⟩; (have hE := hE.below hb; (try have hP := Rd.below hP hb); (try have hT3 := hT3.below hb); (try have hV := hV.below hb); clear hb; ((try clear k0 k1 k2 k3 k4); have k0 := hE.k0; have k1 := hE.k1; have k2 := hE.k2; have k3 := hE.k3; have k4 := hE.k4; dsimp only at k0 k1 k2 k3 k4)))
          (go_wp2_with (fail); refine (lerrata_any _ er _ hE.err hq1).mono ?_; rintro e WR ⟨vr, rfl, hR, hb⟩; have hR := hR.rd; (have hE := hE.below hb; (try have hP := Rd.below hP hb); (try have hT3 := hT3.below hb); (try have hV := hV.below hb); clear hb; ((try clear k0 k1 k2 k3 k4); have k0 := hE.k0; have k1 := hE.k1; have k2 := hE.k2; have k3 := hE.k3; have k4 := hE.k4; dsimp only at k0 k1 k2 k3 k4)))
          go_wp2_with (fail)
          refine (Cite_any _ _ ⟨n0, n1, n2, n3, ps⟩ er a1 s 0 _ hV hs hR hl1 hf1 hs0 t1 hE.glob).mono ?_
          rw [HC1.out]
          rintro e WC ⟨rfl, hb⟩
          clear hV hR
          (have hE := hE.below hb; (try have hP := Rd.below hP hb); (try have hT3 := hT3.below hb); (try have hV := hV.below hb); clear hb; ((try clear k0 k1 k2 k3 k4); have k0 := hE.k0; have k1 := hE.k1; have k2 := hE.k2; have k3 := hE.k3; have k4 := hE.k4; dsimp only at k0 k1 k2 k3 k4))
          dsimp only [citeV]
          (go_wp2_with (fail); refine (lvolume_any _ ⟨n0, n1, n2, n3, ps⟩ _ hE.vol hs).mono ?_; rintro e WV ⟨vv, rfl, hV, hb⟩; (have hE := hE.below hb; (try have hP := Rd.below hP hb); (try have hT3 := hT3.below hb); (try have hV := hV.below hb); clear hb; ((try clear k0 k1 k2 k3 k4); have k0 := hE.k0; have k1 := hE.k1; have k2 := hE.k2; have k3 := hE.k3; have k4 := hE.k4; dsimp only at k0 k1 k2 k3 k4)))
          (go_wp2_with (fail); refine (lerrata_any _ er _ hE.err hq1).mono ?_; rintro e WR ⟨vr, rfl, hR, hb⟩; have hR := hR.rd; (have hE := hE.below hb; (try have hP := Rd.below hP hb); (try have hT3 := hT3.below hb); (try have hV := hV.below hb); clear hb; ((try clear k0 k1 k2 k3 k4); have k0 := hE.k0; have k1 := hE.k1; have k2 := hE.k2; have k3 := hE.k3; have k4 := hE.k4; dsimp only at k0 k1 k2 k3 k4)))
          go_wp2_with (fail)
          refine (Cite_any _ _ ⟨n0, n1, n2, n3, ps⟩ er a2 s 0 _ hV hs hR hl1 hf1 hs0 t2 hE.glob).mono ?_
          rw [HC2.out]
          rintro e WC ⟨rfl, hb⟩
          clear hV hR
          (have hE := hE.below hb; (try have hP := Rd.below hP hb); (try have hT3 := hT3.below hb); (try have hV := hV.below hb); clear hb; ((try clear k0 k1 k2 k3 k4); have k0 := hE.k0; have k1 := hE.k1; have k2 := hE.k2; have k3 := hE.k3; have k4 := hE.k4; dsimp only at k0 k1 k2 k3 k4))
          dsimp only [citeV]
          by_cases ha : a1 = a2
          · have hcc := HCS.out.2 ha
            subst hcc
            subst ha
            clear HC1 HC2 HCS
            (go_wp2_with (fail); refine (wakes_any _ hE.glob).mono ?_; rintro e W2 ⟨rfl, hb⟩; go_wp2; go_ret; exact ⟨rfl, hE.base.trans (hb.mono hE.base.size)⟩)
          · have hcc : ¬ ct1 = ct2 := fun h => ha (HCS.out.1 h)
            have hab : (a1 == a2) = false := by simpa using ha
            have hcd : (ct1.toList == ct2.toList) = false := by
              rw [Lib.toList_data, Lib.toList_data]
              simp only [beq_eq_false_iff_ne, ne_eq]
              exact fun h => hcc (ba_of_toList h)
            clear HC1 HC2 HCS hcc ha
            (go_wp2_with (fail); refine (wakes_any _ hE.glob).mono ?_; rintro e W2 ⟨rfl, hb⟩; go_wp2; go_ret; exact ⟨rfl, hE.base.trans (hb.mono hE.base.size)⟩)
  · rw [q1]
    clear q1 HBL HFP
    dsimp only
    rcases q2 with rfl | rfl
    all_goals
      by_cases hz : pl.length = 0
      · obtain rfl : pl = [] := List.eq_nil_of_length_eq_zero hz
        clear hz
        (go_wp2_with (fail); refine (wakes_any _ hE.glob).mono ?_; rintro e W2 ⟨rfl, hb⟩; go_wp2; go_ret; exact ⟨rfl, hE.base.trans (hb.mono hE.base.size)⟩)
      have hlp : 0 < pl.length := Nat.pos_of_ne_zero hz
      have hzb : ((pl.length : Int) == 0) = false := by simpa using hz
      obtain ⟨A4, c4, e4, hc4, hm4, hr4⟩ := id hP
      simp only [Value.slice.injEq] at e4
      obtain ⟨rfl, -, rfl⟩ := e4
      obtain ⟨b, off, rfl, hb9, hrow⟩ := hr4 hlp
      clear hr4 hz
      have hj1 := Nat.mod_lt o1 hlp
      have hj2 := Nat.mod_lt o2 hlp
      have g1 : WP.cell? ⟨b, off + o1 % pl.length * 4, none⟩ = some (.int .i64 pl[o1 % pl.length].anchor) := hrow (o1 % pl.length) hj1 0 _ rfl
      have g2 : WP.cell? ⟨b, off + o2 % pl.length * 4, none⟩ = some (.int .i64 pl[o2 % pl.length].anchor) := hrow (o2 % pl.length) hj2 0 _ rfl
      have ha1 : ∃ p ∈ printV ⟨n0, n1, n2, n3, ps⟩ er, pl[o1 % pl.length].anchor = p.anchor := by
        have h := HPA.out (o1 % pl.length)
        simp only [HPLQ.out] at h
        exact h hj1
      have ha2 : ∃ p ∈ printV ⟨n0, n1, n2, n3, ps⟩ er, pl[o2 % pl.length].anchor = p.anchor := by
        have h := HPA.out (o2 % pl.length)
        simp only [HPLQ.out] at h
        exact h hj2
      clear hrow HPA HPLQ
      have mm1 : (o1 : Int) % (pl.length : Int) = ((o1 % pl.length : Nat) : Int) := rfl
      have mt1 : (o1 : Int).tmod (pl.length : Int) = ((o1 % pl.length : Nat) : Int) := rfl
      have mm2 : (o2 : Int) % (pl.length : Int) = ((o2 % pl.length : Nat) : Int) := rfl
      have mt2 : (o2 : Int).tmod (pl.length : Int) = ((o2 % pl.length : Nat) : Int) := rfl
      generalize pl[o1 % pl.length].anchor = a1 at g1 ha1
      generalize pl[o2 % pl.length].anchor = a2 at g2 ha2
      generalize o1 % pl.length = j1 at g1 mm1 mt1 hj1
      generalize o2 % pl.length = j2 at g2 mm2 mt2 hj2
      have hnl : ¬ pl = [] := fun h => by rw [h] at hlp; exact absurd hlp (by decide)
      have hnz : ¬ ((pl.length : Int) = 0) := by omega
      have hwo1 : IntKind.i64.wrap (o1 : Int) = (o1 : Int) := by rw [IntKind.wrap_i64]; omega
      have hwo2 : IntKind.i64.wrap (o2 : Int) = (o2 : Int) := by rw [IntKind.wrap_i64]; omega
      have i1 : (0 : Int) ≤ (j1 : Int) := by omega
      have i2 : (j1 : Int) < (pl.length : Int) := by omega
      have i3 : (0 : Int) ≤ (j2 : Int) := by omega
      have i4 : (j2 : Int) < (pl.length : Int) := by omega
      clear hP
      go_wp2_with (fail)
      go_cut [25, 26] from 139 to 156 (fun s25 s26 wx => s25 = .int .i64 a1 ∧ s26 = .int .i64 a2 ∧ Aside (Below WP.heap.size WP wx))
      case first =>
        clear k0 k1 k2 k3 k4
        go_quiet (skip)
        go_wp2_with (fail)
        go_meet
        exact ⟨rfl, rfl, (Below.refl _ _).drewN _⟩
      case rest =>
        obtain ⟨rfl, rfl, hcut⟩ := hcut
        have hb := hcut.out
        clear hcut g1 g2 i1 i2 i3 i4 mm1 mm2 mt1 mt2 hwo1 hwo2 hnl hnz
        (have hE := hE.below hb; (try have hP := Rd.below hP hb); (try have hT3 := hT3.below hb); (try have hV := hV.below hb); clear hb; ((try clear k0 k1 k2 k3 k4); have k0 := hE.k0; have k1 := hE.k1; have k2 := hE.k2; have k3 := hE.k3; have k4 := hE.k4; dsimp only at k0 k1 k2 k3 k4))
        obtain ⟨p1, hp1, e1⟩ := ha1
        obtain ⟨p2, hp2, e2⟩ := ha2
        have hsr := Nat.mod_lt st (show 0 < 2 by decide)
        have hms : (st : Int) % 2 = ((st % 2 : Nat) : Int) := rfl
        have hmt : (st : Int).tmod 2 = ((st % 2 : Nat) : Int) := rfl
        generalize st % 2 = s at hsr hms hmt
        have hs0 : (0 : Int) ≤ (s : Int) := by omega
        have hs1 : (s : Int) ≤ 1 := by omega
        have C1 := cite_place hn1.out.2.1 hn1.out.2.2 hp1 s 0 hs0 hs1
        have C2 := cite_place hn1.out.2.1 hn1.out.2.2 hp2 s 0 hs0 hs1
        have CS := cites_same hn1.out.2.1 hn1.out.2.2 hs hp1 hp2 s
        have t1 := print_anchor hn1.out.2.1 hn1.out.2.2 hp1
        have t2 := print_anchor hn1.out.2.1 hn1.out.2.2 hp2
        rw [← e1] at C1 CS t1
        rw [← e2] at C2 CS t2
        clear e1 e2 hp1 hp2 hs1
        generalize citeP (⟨n0, n1, n2, n3, ps⟩ : Vol).number s p1 = ct1 at C1 CS
        generalize citeP (⟨n0, n1, n2, n3, ps⟩ : Vol).number s p2 = ct2 at C2 CS
        have HC1 := Lib.hid C1
        have HC2 := Lib.hid C2
        have HCS := Lib.hid CS
        clear C1 C2 CS
        (go_wp2_with (fail); refine (lvolume_any _ ⟨n0, n1, n2, n3, ps⟩ _ hE.vol hs).mono ?_; rintro e WV ⟨vv, rfl, hV, hb⟩; (have hE := hE.below hb; (try have hP := Rd.below hP hb); (try have hT3 := hT3.below hb); (try have hV := hV.below hb); clear hb; ((try clear k0 k1 k2 k3 k4); have k0 := hE.k0; have k1 := hE.k1; have k2 := hE.k2; have k3 := hE.k3; have k4 := hE.k4; dsimp only at k0 k1 k2 k3 k4)))
        (go_wp2_with (fail); refine (lerrata_any _ er _ hE.err hq1).mono ?_; rintro e WR ⟨vr, rfl, hR, hb⟩; have hR := hR.rd; (have hE := hE.below hb; (try have hP := Rd.below hP hb); (try have hT3 := hT3.below hb); (try have hV := hV.below hb); clear hb; ((try clear k0 k1 k2 k3 k4); have k0 := hE.k0; have k1 := hE.k1; have k2 := hE.k2; have k3 := hE.k3; have k4 := hE.k4; dsimp only at k0 k1 k2 k3 k4)))
        go_wp2_with (fail)
        refine (Cite_any _ _ ⟨n0, n1, n2, n3, ps⟩ er a1 s 0 _ hV hs hR hl1 hf1 hs0 t1 hE.glob).mono ?_
        rw [HC1.out]
        rintro e WC ⟨rfl, hb⟩
        clear hV hR
        (have hE := hE.below hb; (try have hP := Rd.below hP hb); (try have hT3 := hT3.below hb); (try have hV := hV.below hb); clear hb; ((try clear k0 k1 k2 k3 k4); have k0 := hE.k0; have k1 := hE.k1; have k2 := hE.k2; have k3 := hE.k3; have k4 := hE.k4; dsimp only at k0 k1 k2 k3 k4))
        dsimp only [citeV]
        (go_wp2_with (fail); refine (lvolume_any _ ⟨n0, n1, n2, n3, ps⟩ _ hE.vol hs).mono ?_; rintro e WV ⟨vv, rfl, hV, hb⟩; (have hE := hE.below hb; (try have hP := Rd.below hP hb); (try have hT3 := hT3.below hb); (try have hV := hV.below hb); clear hb; ((try clear k0 k1 k2 k3 k4); have k0 := hE.k0; have k1 := hE.k1; have k2 := hE.k2; have k3 := hE.k3; have k4 := hE.k4; dsimp only at k0 k1 k2 k3 k4)))
        (go_wp2_with (fail); refine (lerrata_any _ er _ hE.err hq1).mono ?_; rintro e WR ⟨vr, rfl, hR, hb⟩; have hR := hR.rd; (have hE := hE.below hb; (try have hP := Rd.below hP hb); (try have hT3 := hT3.below hb); (try have hV := hV.below hb); clear hb; ((try clear k0 k1 k2 k3 k4); have k0 := hE.k0; have k1 := hE.k1; have k2 := hE.k2; have k3 := hE.k3; have k4 := hE.k4; dsimp only at k0 k1 k2 k3 k4)))
        go_wp2_with (fail)
        refine (Cite_any _ _ ⟨n0, n1, n2, n3, ps⟩ er a2 s 0 _ hV hs hR hl1 hf1 hs0 t2 hE.glob).mono ?_
        rw [HC2.out]
        rintro e WC ⟨rfl, hb⟩
        clear hV hR
        (have hE := hE.below hb; (try have hP := Rd.below hP hb); (try have hT3 := hT3.below hb); (try have hV := hV.below hb); clear hb; ((try clear k0 k1 k2 k3 k4); have k0 := hE.k0; have k1 := hE.k1; have k2 := hE.k2; have k3 := hE.k3; have k4 := hE.k4; dsimp only at k0 k1 k2 k3 k4))
        dsimp only [citeV]
        by_cases ha : a1 = a2
        · have hcc := HCS.out.2 ha
          subst hcc
          subst ha
          clear HC1 HC2 HCS
          (go_wp2_with (fail); refine (wakes_any _ hE.glob).mono ?_; rintro e W2 ⟨rfl, hb⟩; go_wp2; go_ret; exact ⟨rfl, hE.base.trans (hb.mono hE.base.size)⟩)
        · have hcc : ¬ ct1 = ct2 := fun h => ha (HCS.out.1 h)
          have hab : (a1 == a2) = false := by simpa using ha
          have hcd : (ct1.toList == ct2.toList) = false := by
            rw [Lib.toList_data, Lib.toList_data]
            simp only [beq_eq_false_iff_ne, ne_eq]
            exact fun h => hcc (ba_of_toList h)
          clear HC1 HC2 HCS hcc ha
          (go_wp2_with (fail); refine (wakes_any _ hE.glob).mono ?_; rintro e W2 ⟨rfl, hb⟩; go_wp2; go_ret; exact ⟨rfl, hE.base.trans (hb.mono hE.base.size)⟩)
end Go.Proofs.YtjkmdpejcgepkaaGreatDoor
