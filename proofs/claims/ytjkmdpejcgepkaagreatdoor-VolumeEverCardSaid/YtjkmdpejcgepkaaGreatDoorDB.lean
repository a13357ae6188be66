/- Resolve: the walk. -/
import Derived.Test.YtjkmdpejcgepkaaGreatDoorDA
namespace Go.Proofs.YtjkmdpejcgepkaaGreatDoor
open Go.RowKit
theorem within_b (n lo hi : Int) (b : Bool) (h : withinB n lo hi = b) (w : World) : Calls Tryz.prog 40 #[.int .i64 n, .int .i64 lo, .int .i64 hi] w fun e w' => e = .returned (.bool b) ∧ w = w' := h ▸ within_any n lo hi w
def ResolvePost (w : World) (p : Int × Int × Int) (e : Ending) (w' : World) : Prop := e = .returned (resolveV p) ∧ Below w.heap.size w w'
set_option maxHeartbeats 8000000 in
set_option maxRecDepth 100000 in
theorem Resolve_any (v ev : Value) (x : Vol) (errata : List Err) (cite : ByteArray) (w : World) (hv : IsVol w v x) (hs : x.small) (he : RdE w ev errata) (hl : errata.length ≤ 1000) (hf : ∀ y ∈ errata, y.fits)
    (hcl : cite.size ≤ 100000) (hG : Glob w) :
    Calls Tryz.prog 21 #[v, ev, .string cite] w (ResolvePost w (resolveE x errata cite.data.toList)) := by
  obtain ⟨sv, rfl, A, c, rfl, hc, hm, hr⟩ := id hv
  obtain ⟨A0, c0, rfl, -⟩ := id he
  have hck : ∀ W, Below w.heap.size w W → Calls Tryz.prog 33 #[x.val (.slice A x.parts.length c), .slice A0 errata.length c0] W fun e w' => e = .returned (.int .i64 (checkE x errata)) ∧ Below W.heap.size W w' := fun W hW =>
    check_any _ _ x errata W (hv.below hW) hs (Rd.below he hW) (by omega) hf
  have hpr : checkE x errata = 0 → ∀ W, Below w.heap.size w W → Calls Tryz.prog 37 #[x.val (.slice A x.parts.length c), .slice A0 errata.length c0] W (PrintPost W (printV x errata)) := fun h0 W hW => by
    have hz := check_sizes h0
    exact print_any _ _ x errata W (hv.below hW) hs (Rd.below he hW) hl (fun y hy => ok_kind (List.all_eq_true.1 (checkE_ok h0).2.2.1 y hy)) (by omega) (by omega) (by omega) (by omega)
      (textsLe_of fun e hm => by have := textB_size (after_texts h0 x.bound e hm); omega)
  have hfi : ∀ a to W, Below w.heap.size w W → Calls Tryz.prog 23 #[x.val (.slice A x.parts.length c), .slice A0 errata.length c0, .int .i64 a, .int .i64 to] W fun e w' => e = .returned (findV (findE x errata a to)) ∧ Below W.heap.size W w' := fun a to W hW =>
    Find_any _ _ x errata a to W (hv.below hW) hs (Rd.below he hW) hl hf
  have hrd : ∀ W, Below w.heap.size w W → Calls Tryz.prog 39 #[.string cite] W fun e w' => e = .returned (readC (parseC cite.data.toList)) ∧ Below W.heap.size W w' := fun W hW => read_any cite W hcl (hG.below hW)
  have hmem : Hid (checkE x errata = 0 → ∀ p ∈ printV x errata, (1 ≤ p.column ∧ p.column ≤ 1000000000000 ∧ 1 ≤ p.line ∧ p.line ≤ x.height ∧ 0 ≤ p.day ∧ p.day ≤ 99999 ∧ 1 ≤ p.number ∧ p.number ≤ 2000) ∧ 1 ≤ p.lines ∧ p.lines ≤ 20) := Lib.hid fun h0 p hp => ⟨printV_mem h0 hs hl hp, lines_of h0 hp⟩
  have hnum : Hid (checkE x errata = 0 → 1 ≤ x.height ∧ x.height ≤ 60) := Lib.hid fun h0 => by have := check_sizes h0; omega
  have hpl := printV_le x errata hs hl
  have R : Hid (resolveV (resolveE x errata cite.data.toList) = resolveV (if checkE x errata ≠ 0 then (0, 0, checkE x errata) else match parseC cite.data.toList with
    | none => (0, 0, 4)
    | some q => if q.1 = 2 then (if (findE x errata q.2.1 q.2.2.1).2.2 ≠ 0 then (0, 0, (findE x errata q.2.1 q.2.2.1).2.2) else (q.2.1, q.2.2.1, 0)) else resolveR x.number x.bound x.height (printV x errata) q.1 q.2.1 q.2.2.1 q.2.2.2)) := Lib.hid rfl
  have hin := @parseC_in cite.data.toList
  clear hv hs hr hG
  show Calls _ _ _ _ fun e w' => e = .returned (resolveV (resolveE x errata cite.data.toList)) ∧ Below w.heap.size w w'
  have HFE : ∃ fe : Int → Int → ByteArray × Bool × Int, fe = fun a b => findE x errata a b := ⟨_, rfl⟩
  obtain ⟨fe, hfe⟩ := HFE
  have hfe' : ∀ a b, findE x errata a b = fe a b := fun a b => by rw [hfe]
  simp only [hfe'] at hfi R
  clear hfe hfe'
  obtain ⟨n0, n1, n2, n3, ps⟩ := x
  dsimp only [Vol.val] at hck hpr hfi R hc hm hpl hmem hnum ⊢
  generalize resolveV (resolveE _ _ _) = rl at R ⊢
  generalize printV _ _ = pl at R hpr hpl hmem
  generalize checkE _ _ = ck at hck hpr R hmem hnum
  generalize parseC _ = pc at R hrd hin
  have hB1 : Below w.heap.size w (w.alloc (.cells #[.int .i64 n0, .int .i64 n1, .int .i64 n2, .int .i64 n3, .slice A ps.length c] 37)) := (Below.refl _ _).alloc (Nat.le_refl _) _
  have hck1 := hck _ hB1
  clear hck
  have hvc : Hid (∀ W1 W2, Below (w.alloc (.cells #[.int .i64 n0, .int .i64 n1, .int .i64 n2, .int .i64 n3, .slice A ps.length c] 37)).heap.size (w.alloc (.cells #[.int .i64 n0, .int .i64 n1, .int .i64 n2, .int .i64 n3, .slice A ps.length c] 37)) W1 → Below W1.heap.size W1 W2 →
      w.heap.size < W2.heap.size ∧ W2.cell? ⟨w.heap.size, 0, none⟩ = some (.int .i64 n0) ∧ W2.cell? ⟨w.heap.size, 1, none⟩ = some (.int .i64 n1) ∧ W2.cell? ⟨w.heap.size, 2, none⟩ = some (.int .i64 n2) ∧ W2.cell? ⟨w.heap.size, 3, none⟩ = some (.int .i64 n3) ∧ W2.cell? ⟨w.heap.size, 4, none⟩ = some (.slice A ps.length c)) := Lib.hid fun W1 W2 h1 h2 => by
    have h3 := h1.go h2
    have hz := h3.size
    rw [World.size_alloc] at hz h3
    refine ⟨hz, ?_, ?_, ?_, ?_, ?_⟩ <;> (rw [h3.cell (p := ⟨w.heap.size, _, none⟩) (Nat.lt_succ_self _)]; simp [go_sem])
  by_cases h0 : ck = 0
  case neg =>
    have HL := Lib.hid (show rl = resolveV (0, 0, ck) by rw [R.out, if_pos h0])
    have h0' : (ck != 0) = true := by simpa using h0
    clear R hpr hfi hmem hnum hrd hin
    go_enter Tryz.func21, Tryz.ntmps21
    go_wp2_with (go_at_call 33; refine hck1.mono ?_; rintro e w1 ⟨rfl, hb1⟩)
    go_ret3
    exact ⟨by rw [HL.out]; rfl, hB1.go hb1⟩
  have h0' : (ck != 0) = false := by simpa using h0
  cases pc with
  | none =>
    have HL := Lib.hid (show rl = resolveV (0, 0, 4) by rw [R.out, if_neg (by simpa using h0)])
    clear R hpr hfi hmem hnum hin
    dsimp only [readC] at hrd
    go_enter Tryz.func21, Tryz.ntmps21
    go_wp2_with (first | (go_at_call 33; refine hck1.mono ?_; rintro e w1 ⟨rfl, hb1⟩) | (go_at_call 39; refine (hrd _ (hB1.go hb1)).mono ?_; rintro e w2 ⟨rfl, hb2⟩))
    go_ret3
    exact ⟨by rw [HL.out]; rfl, ((hB1.go hb1).go hb2).alloc (by have := hB1.size; have := hb1.size; have := hb2.size; omega) _⟩
  | some q =>
    obtain ⟨st, qa, qb, qc⟩ := q
    obtain ⟨i1, i2, i3, i4, i5⟩ := hin rfl
    dsimp only at i1 i2 i3 i4 i5 R
    dsimp only [readC] at hrd
    clear hin
    by_cases h2 : st = 2
    · subst h2
      have R2 : Hid (rl = resolveV (if (fe qa qb).2.2 ≠ 0 then (0, 0, (fe qa qb).2.2) else (qa, qb, 0))) := Lib.hid (by rw [R.out, if_neg (by simpa using h0)]; rfl)
      have hfi1 := hfi qa qb
      clear R hpr hfi hmem hnum i5
      generalize fe qa qb = f0 at hfi1 R2
      obtain ⟨ft, fg, fn⟩ := f0
      dsimp only [findV] at R2 hfi1
      by_cases hfn : fn = 0
      · have hfn' : (fn != 0) = false := by simpa using hfn
        have HL := Lib.hid (show rl = resolveV (qa, qb, 0) by rw [R2.out, if_neg (by simpa using hfn)])
        clear R2
        go_enter Tryz.func21, Tryz.ntmps21
        go_wp2_with (first | (go_at_call 33; refine hck1.mono ?_; rintro e w1 ⟨rfl, hb1⟩) | (go_at_call 39; refine (hrd _ (hB1.go hb1)).mono ?_; rintro e w2 ⟨rfl, hb2⟩; obtain ⟨x0, x1, x2, x3, x4, x5⟩ := hvc.out w1 w2 hb1 hb2; have HB := Lib.hid ((hB1.go hb1).go hb2); clear hck1 hrd hb1 hb2 hvc hB1))
        have HBB : Hid (Below w2.heap.size w2 ((w2.alloc (.cells #[.int .u8 2, .int .i64 qa, .int .i64 qb, .int .i64 qc] 106)).alloc (.cells #[.int .i64 qa, .int .i64 qb, .int .i64 qc] 69))) := Lib.hid (((Below.refl _ _).alloc (Nat.le_refl _) _).alloc (by simp) _)
        refine (hfi1 _ (HB.out.go HBB.out)).mono ?_
        rintro e w3 ⟨rfl, hb3⟩
        have y0 : w3.cell? ⟨w2.heap.size + 1, 0, none⟩ = some (.int .i64 qa) := by rw [hb3.cell (p := ⟨w2.heap.size + 1, 0, none⟩) (by simp)]; simp [go_sem]
        have y1 : w3.cell? ⟨w2.heap.size + 1, 1, none⟩ = some (.int .i64 qb) := by rw [hb3.cell (p := ⟨w2.heap.size + 1, 1, none⟩) (by simp)]; simp [go_sem]
        have HB3 := Lib.hid ((HB.out.go HBB.out).go hb3)
        clear hb3 HBB HB
        go_wp2
        go_quiet (skip)
        go_wp2
        go_ret3
        exact ⟨by rw [HL.out]; rfl, HB3.out.drewN _⟩
      · have hfn' : (fn != 0) = true := by simpa using hfn
        have HL := Lib.hid (show rl = resolveV (0, 0, fn) by rw [R2.out, if_pos hfn])
        clear R2 hfn
        go_enter Tryz.func21, Tryz.ntmps21
        go_wp2_with (first | (go_at_call 33; refine hck1.mono ?_; rintro e w1 ⟨rfl, hb1⟩) | (go_at_call 39; refine (hrd _ (hB1.go hb1)).mono ?_; rintro e w2 ⟨rfl, hb2⟩; obtain ⟨x0, x1, x2, x3, x4, x5⟩ := hvc.out w1 w2 hb1 hb2; have HB := Lib.hid ((hB1.go hb1).go hb2); clear hck1 hrd hb1 hb2 hvc hB1))
        have HBB : Hid (Below w2.heap.size w2 ((w2.alloc (.cells #[.int .u8 2, .int .i64 qa, .int .i64 qb, .int .i64 qc] 106)).alloc (.cells #[.int .i64 qa, .int .i64 qb, .int .i64 qc] 69))) := Lib.hid (((Below.refl _ _).alloc (Nat.le_refl _) _).alloc (by simp) _)
        refine (hfi1 _ (HB.out.go HBB.out)).mono ?_
        rintro e w3 ⟨rfl, hb3⟩
        have HB3 := Lib.hid ((HB.out.go HBB.out).go hb3)
        clear hb3 HBB HB
        go_wp2
        go_ret3
        exact ⟨by rw [HL.out]; rfl, HB3.out⟩
    · have R3 : Hid (rl = resolveV (resolveR n0 n1 n2 pl st qa qb qc)) := Lib.hid (by rw [R.out, if_neg (by simpa using h0)]; show resolveV (if st = 2 then _ else _) = _; rw [if_neg h2])
      have hs2 : (st == 2) = false := by simpa using h2
      have hpr0 := hpr h0
      have hmem0 := Lib.hid (hmem.out h0)
      obtain ⟨m1, m2⟩ := hnum.out h0
      clear R hpr hfi hmem hnum h0
      go_enter Tryz.func21, Tryz.ntmps21
      go_wp2_with (first | (go_at_call 33; refine hck1.mono ?_; rintro e w1 ⟨rfl, hb1⟩) | (go_at_call 39; refine (hrd _ (hB1.go hb1)).mono ?_; rintro e w2 ⟨rfl, hb2⟩; obtain ⟨x0, x1, x2, x3, x4, x5⟩ := hvc.out w1 w2 hb1 hb2; have HB := Lib.hid ((hB1.go hb1).go hb2); clear hck1 hrd hb1 hb2 hvc hB1))
      have HBB : Hid (Below w2.heap.size w2 ((w2.alloc (.cells #[.int .u8 st, .int .i64 qa, .int .i64 qb, .int .i64 qc] 106)).alloc (.cells #[.int .i64 qa, .int .i64 qb, .int .i64 qc] 69))) := Lib.hid (((Below.refl _ _).alloc (Nat.le_refl _) _).alloc (by simp) _)
      refine (hpr0 _ (HB.out.go HBB.out)).mono ?_
      rintro e w3 ⟨pv, rfl, hO, hb3⟩
      have HB3 := Lib.hid ((HB.out.go HBB.out).go hb3)
      have hz3 : w2.heap.size + 1 < w3.heap.size := by have h := hb3.size; rw [World.size_alloc, World.size_alloc] at h; omega
      have hvd : Hid (∀ W, Below w3.heap.size w3 W → (w.heap.size < W.heap.size ∧ W.cell? ⟨w.heap.size, 0, none⟩ = some (.int .i64 n0) ∧ W.cell? ⟨w.heap.size, 1, none⟩ = some (.int .i64 n1) ∧ W.cell? ⟨w.heap.size, 2, none⟩ = some (.int .i64 n2)) ∧
          w2.heap.size + 1 < W.heap.size ∧ W.cell? ⟨w2.heap.size, 0, none⟩ = some (.int .u8 st) ∧ W.cell? ⟨w2.heap.size + 1, 0, none⟩ = some (.int .i64 qa) ∧ W.cell? ⟨w2.heap.size + 1, 1, none⟩ = some (.int .i64 qb) ∧ W.cell? ⟨w2.heap.size + 1, 2, none⟩ = some (.int .i64 qc)) := Lib.hid fun W hW => by
        have h1 := HBB.out.go (hb3.go hW)
        have h2 := hb3.go hW
        have hz := hW.size
        refine ⟨⟨by omega, (h1.cell (p := ⟨w.heap.size, 0, none⟩) x0).trans x1, (h1.cell (p := ⟨w.heap.size, 1, none⟩) x0).trans x2, (h1.cell (p := ⟨w.heap.size, 2, none⟩) x0).trans x3⟩, by omega, ?_, ?_, ?_, ?_⟩
        · rw [h2.cell (p := ⟨w2.heap.size, 0, none⟩) (by simp; omega)]; simp [go_sem]
        · rw [h2.cell (p := ⟨w2.heap.size + 1, 0, none⟩) (by simp)]; simp [go_sem]
        · rw [h2.cell (p := ⟨w2.heap.size + 1, 1, none⟩) (by simp)]; simp [go_sem]
        · rw [h2.cell (p := ⟨w2.heap.size + 1, 2, none⟩) (by simp)]; simp [go_sem]
      have hR := hO.rd
      obtain ⟨A1, c1, rfl, hc1', hm1', hro⟩ := id hR
      clear hpr0 hb3 hO hR x0 x1 x2 x3 x4 x5 HB HBB
      go_wp2
      go_loopg [60] pl.length (fun gg s60 wr => ∃ kk : Nat, kk ≤ pl.length ∧ pl.length - kk ≤ gg ∧ s60 = .int .i64 kk ∧ Aside ((∀ j (_ : j < pl.length), j < kk → hit n0 n2 st qa qb qc pl[j] = false) ∧ Below w3.heap.size w3 wr))
      case atStart => exact ⟨0, Nat.zero_le _, by omega, rfl, fun j _ h => absurd h (Nat.not_lt_zero _), Below.refl _ _⟩
      case round =>
        obtain ⟨kk, hkk, hg, rfl, A2⟩ := hrel
        have hBw := A2.out.2
        have HNO := Lib.hid A2.out.1
        by_cases hlt : kk < pl.length
        · obtain ⟨b, off, rfl, hb, hr1⟩ := hro (by omega)
          clear hro
          have hc' := hr1.below hb hBw kk hlt
          have hmm := hmem0.out _ (List.getElem_mem hlt)
          have hbW : b < wr.heap.size := Nat.lt_of_lt_of_le hb hBw.size
          obtain ⟨⟨q0, q1, q2, q3⟩, q4, q5, q6, q7, q8⟩ := hvd.out wr hBw
          have q9 : w2.heap.size < wr.heap.size := by omega
          have HBw := Lib.hid hBw
          have hz := hBw.size
          have HIN : Hid (∀ cs t, Below w3.heap.size w3 (wr.alloc (.cells cs t))) := Lib.hid fun cs t => hBw.alloc hz _
          have HYES : Hid (hit n0 n2 st qa qb qc pl[kk] = true → rl = resolveV (pl[kk].anchor, n1, 0)) := Lib.hid fun hh => by rw [R3.out]; unfold resolveR; rw [pfind_at hlt hh HNO.out]
          have HN2 : Hid (hit n0 n2 st qa qb qc pl[kk] = false → ∀ j (_ : j < pl.length), j < kk + 1 → hit n0 n2 st qa qb qc pl[j] = false) := Lib.hid fun hh j hj hjk => by
            by_cases e : j = kk
            · subst e; exact hh
            · exact HNO.out j hj (by omega)
          clear A2 hr1 hBw HNO
          generalize pl[kk] = y at hc' hmm HYES HN2
          obtain ⟨y0, y1, y2, y3, y4, y5⟩ := y
          have d0 := hc' 0 _ rfl; have d1 := hc' 1 _ rfl; have d2 := hc' 2 _ rfl; have d3 := hc' 3 _ rfl; have d4 := hc' 4 _ rfl; have d5 := hc' 5 _ rfl
          clear hc'
          simp only [Nat.add_zero, show EPr.k = 6 from rfl] at d0 d1 d2 d3 d4 d5
          dsimp only at hmm HYES
          obtain ⟨⟨p1, p2, p3, p4, p5, p6, p7, p8⟩, p9, pA⟩ := hmm
          have hml := mul_in (a := qb - y1) (b := n2) (by omega) (by omega) (by omega) (by omega)
          obtain ⟨t1, t2⟩ := hml
          by_cases hs0 : st = 0
          · subst hs0
            cases hw1 : withinB qc 1 n2
            · have HN := Lib.hid (HN2.out (by unfold hit; rw [if_pos rfl, hw1]; rfl))
              clear HN2 HYES
              cases hd1 : (y4 == qb)
              all_goals
                go_wp2_with (first | (go_at_call 40; refine (within_any _ _ _ _).mono ?_; rintro e w' ⟨rfl, rfl⟩; first | rw [hw1] | rw [hw2]))
                go_roundg (pl.length - (kk + 1))
                case measure => exact measT hg hlt
                case rel => exact ⟨kk + 1, hlt, Nat.le_refl _, by go_num, HN.out, HIN.out _ _⟩
            cases hw2 : withinB ((qb - y1) * n2 + qc - y2) 0 (y3 - 1)
            · have HN := Lib.hid (HN2.out (by unfold hit lineAt; rw [if_pos rfl, hw1]; dsimp only; rw [hw2]; rfl))
              clear HN2 HYES
              cases hd1 : (y4 == qb)
              all_goals
                go_wp2_with (first | (go_at_call 40; refine (within_any _ _ _ _).mono ?_; rintro e w' ⟨rfl, rfl⟩; first | rw [hw1] | rw [hw2]))
                go_roundg (pl.length - (kk + 1))
                case measure => exact measT hg hlt
                case rel => exact ⟨kk + 1, hlt, Nat.le_refl _, by go_num, HN.out, HIN.out _ _⟩
            cases hd3 : (qa == n0)
            · have HN := Lib.hid (HN2.out (by unfold hit lineAt; rw [if_pos rfl, hw1]; dsimp only; rw [hw2, hd3]; rfl))
              clear HN2 HYES
              cases hd1 : (y4 == qb)
              all_goals
                go_wp2_with (first | (go_at_call 40; refine (within_any _ _ _ _).mono ?_; rintro e w' ⟨rfl, rfl⟩; first | rw [hw1] | rw [hw2]))
                go_roundg (pl.length - (kk + 1))
                case measure => exact measT hg hlt
                case rel => exact ⟨kk + 1, hlt, Nat.le_refl _, by go_num, HN.out, HIN.out _ _⟩
            · have HL := Lib.hid (HYES.out (by unfold hit lineAt; rw [if_pos rfl, hw1]; dsimp only; rw [hw2, hd3]; rfl))
              clear HN2 HYES
              cases hd1 : (y4 == qb)
              all_goals
                go_wp2_with (first | (go_at_call 40; refine (within_any _ _ _ _).mono ?_; rintro e w' ⟨rfl, rfl⟩; first | rw [hw1] | rw [hw2]))
                go_quiet (skip)
                go_wp2
                go_ret3
                exact ⟨by rw [HL.out]; rfl, (HB3.out.go (HIN.out _ _)).drewN _⟩
          · have hs0' : (st == 0) = false := by simpa using hs0
            cases hd1 : (y4 == qb)
            · have HN := Lib.hid (HN2.out (by unfold hit; rw [if_neg hs0]; dsimp only; rw [hd1]; rfl))
              clear HN2 HYES
              go_wp2
              go_roundg (pl.length - (kk + 1))
              case measure => exact measT hg hlt
              case rel => exact ⟨kk + 1, hlt, Nat.le_refl _, by go_num, HN.out, HIN.out _ _⟩
            cases hd2 : (y5 == qc)
            · have HN := Lib.hid (HN2.out (by unfold hit; rw [if_neg hs0]; dsimp only; rw [hd1, hd2]; rfl))
              clear HN2 HYES
              go_wp2
              go_roundg (pl.length - (kk + 1))
              case measure => exact measT hg hlt
              case rel => exact ⟨kk + 1, hlt, Nat.le_refl _, by go_num, HN.out, HIN.out _ _⟩
            cases hd3 : (qa == n0)
            · have HN := Lib.hid (HN2.out (by unfold hit; rw [if_neg hs0]; dsimp only; rw [hd1, hd2, hd3]; rfl))
              clear HN2 HYES
              go_wp2
              go_roundg (pl.length - (kk + 1))
              case measure => exact measT hg hlt
              case rel => exact ⟨kk + 1, hlt, Nat.le_refl _, by go_num, HN.out, HIN.out _ _⟩
            · have HL := Lib.hid (HYES.out (by unfold hit; rw [if_neg hs0]; dsimp only; rw [hd1, hd2, hd3]; rfl))
              clear HN2 HYES
              go_wp2
              go_quiet (skip)
              go_wp2
              go_ret3
              exact ⟨by rw [HL.out]; rfl, (HB3.out.go (HIN.out _ _)).drewN _⟩
        · have : kk = pl.length := by omega
          subst this
          have HL := Lib.hid (show rl = resolveV (0, 0, 7) by rw [R3.out]; unfold resolveR; rw [pfind_no HNO.out])
          have HBw := Lib.hid hBw
          clear A2 hro hBw
          go_wp2
          go_ret3
          exact ⟨by rw [HL.out]; rfl, HB3.out.go HBw.out⟩
end Go.Proofs.YtjkmdpejcgepkaaGreatDoor
