/- Cite: the walk. -/
import Derived.Test.YtjkmdpejcgepkaaGreatDoorD1
namespace Go.Proofs.YtjkmdpejcgepkaaGreatDoor
open Go.RowKit
def CitePost (w : World) (p : ByteArray × Int) (e : Ending) (w' : World) : Prop := e = .returned (citeV p) ∧ Below w.heap.size w w'
set_option maxHeartbeats 4000000 in
set_option maxRecDepth 100000 in
theorem Cite_any (v ev : Value) (x : Vol) (errata : List Err) (a style to : Int) (w : World) (hv : IsVol w v x) (hs : x.small) (he : RdE w ev errata) (hl : errata.length ≤ 1000) (hf : ∀ y ∈ errata, y.fits)
    (hst : 0 ≤ style) (hat : -9223372036854775808 ≤ a ∧ a ≤ 9223372036854775807) (hG : Glob w) :
    Calls Tryz.prog 20 #[v, ev, .int .i64 a, .int .u8 style, .int .i64 to] w (CitePost w (citeE x errata a style to)) := by
  obtain ⟨sv, rfl, A, c, rfl, hc, hm, hr⟩ := id hv
  obtain ⟨A0, c0, rfl, -⟩ := id he
  have hck : ∀ W, Below w.heap.size w W → Calls Tryz.prog 33 #[x.val (.slice A x.parts.length c), .slice A0 errata.length c0] W fun e w' => e = .returned (.int .i64 (checkE x errata)) ∧ Below W.heap.size W w' := fun W hW =>
    check_any _ _ x errata W (hv.below hW) hs (Rd.below he hW) (by omega) hf
  have hpr : checkE x errata = 0 → ∀ W, Below w.heap.size w W → Calls Tryz.prog 37 #[x.val (.slice A x.parts.length c), .slice A0 errata.length c0] W (PrintPost W (printV x errata)) := fun h0 W hW => by
    have hz := check_sizes h0
    exact print_any _ _ x errata W (hv.below hW) hs (Rd.below he hW) hl (fun y hy => ok_kind (List.all_eq_true.1 (checkE_ok h0).2.2.1 y hy)) (by omega) (by omega) (by omega) (by omega)
      (textsLe_of fun e hm => by have := textB_size (after_texts h0 x.bound e hm); omega)
  have hfi : ∀ W, Below w.heap.size w W → Calls Tryz.prog 23 #[x.val (.slice A x.parts.length c), .slice A0 errata.length c0, .int .i64 a, .int .i64 to] W fun e w' => e = .returned (findV (findE x errata a to)) ∧ Below W.heap.size W w' := fun W hW =>
    Find_any _ _ x errata a to W (hv.below hW) hs (Rd.below he hW) hl hf
  have hmem : Hid (checkE x errata = 0 → ∀ p ∈ printV x errata, 1 ≤ p.column ∧ p.column ≤ 1000000000000 ∧ 1 ≤ p.line ∧ p.line ≤ x.height ∧ 0 ≤ p.day ∧ p.day ≤ 99999 ∧ 1 ≤ p.number ∧ p.number ≤ 2000) := Lib.hid fun h0 p hp => printV_mem h0 hs hl hp
  have hnum : Hid (checkE x errata = 0 → 1 ≤ x.number ∧ x.number ≤ 99 ∧ x.height ≤ 60) := Lib.hid fun h0 => by have := check_sizes h0; omega
  have hpl := printV_le x errata hs hl
  have hGb : ∀ W, Below w.heap.size w W → Glob W := fun W hW => hG.below hW
  have R : Hid (citeV (citeE x errata a style to) = citeV (if checkE x errata ≠ 0 then (⟨#[]⟩, checkE x errata) else if 2 < style then (⟨#[]⟩, 2) else if style = 2 then (if dayB to = false then (⟨#[]⟩, 2) else if (findE x errata a to).2.2 ≠ 0 then (⟨#[]⟩, (findE x errata a to).2.2) else (bytesOf (spell (iAt a to)), 0)) else citeR x.number (printV x errata) a style)) := Lib.hid rfl
  clear hv hs hr hG
  show Calls _ _ _ _ fun e w' => e = .returned (citeV (citeE x errata a style to)) ∧ Below w.heap.size w w'
  obtain ⟨n0, n1, n2, n3, ps⟩ := x
  dsimp only [Vol.val] at hck hpr hfi R hc hm hpl hmem hnum ⊢
  generalize citeV (citeE _ _ _ _ _) = rl at R ⊢
  generalize printV _ _ = pl at R hpr hpl hmem
  generalize checkE _ _ = ck at hck hpr R hmem hnum
  generalize findE _ _ _ _ = fe at hfi R
  have hB1 : Below w.heap.size w (w.alloc (.cells #[.int .i64 n0, .int .i64 n1, .int .i64 n2, .int .i64 n3, .slice A ps.length c] 37)) := (Below.refl _ _).alloc (Nat.le_refl _) _
  have hck1 := hck _ hB1
  clear hck
  by_cases h0 : ck = 0
  case neg =>
    have HL := Lib.hid (show rl = citeV (⟨#[]⟩, ck) by rw [R.out, if_pos h0])
    have h0' : (ck != 0) = true := by simpa using h0
    clear R hpr hfi hmem hnum
    go_enter Tryz.func20, Tryz.ntmps20
    go_wp2_with (go_at_call 33; refine hck1.mono ?_; rintro e w1 ⟨rfl, hb1⟩)
    go_ret2
    exact ⟨by rw [HL.out]; rfl, hB1.go hb1⟩
  have h0' : (ck != 0) = false := by simpa using h0
  have R1 : Hid (rl = citeV (if 2 < style then (⟨#[]⟩, 2) else if style = 2 then (if dayB to = false then (⟨#[]⟩, 2) else if fe.2.2 ≠ 0 then (⟨#[]⟩, fe.2.2) else (bytesOf (spell (iAt a to)), 0)) else citeR n0 pl a style)) := Lib.hid (by rw [R.out, if_neg (by simpa using h0)])
  clear R
  by_cases h2 : 2 < style
  · have HL := Lib.hid (show rl = citeV (⟨#[]⟩, 2) by rw [R1.out, if_pos h2])
    have h2' : decide (2 < style) = true := by simpa using h2
    clear R1 hpr hfi hmem hnum
    go_enter Tryz.func20, Tryz.ntmps20
    go_wp2_with (go_at_call 33; refine hck1.mono ?_; rintro e w1 ⟨rfl, hb1⟩)
    go_ret2
    exact ⟨by rw [HL.out]; rfl, hB1.go hb1⟩
  have h2' : decide (2 < style) = false := by simpa using h2
  have R2 : Hid (rl = citeV (if style = 2 then (if dayB to = false then (⟨#[]⟩, 2) else if fe.2.2 ≠ 0 then (⟨#[]⟩, fe.2.2) else (bytesOf (spell (iAt a to)), 0)) else citeR n0 pl a style)) := Lib.hid (by rw [R1.out, if_neg h2])
  clear R1 h2
  by_cases h3 : style = 2
  · subst h3
    cases hd : dayB to
    · have HL := Lib.hid (show rl = citeV (⟨#[]⟩, 2) by rw [R2.out, if_pos rfl, if_pos hd])
      clear R2 hpr hfi hmem hnum
      go_enter Tryz.func20, Tryz.ntmps20
      go_wp2_with (first | (go_at_call 33; refine hck1.mono ?_; rintro e w1 ⟨rfl, hb1⟩) | (go_at_call 34; refine (day_any _ _).mono ?_; rintro e w' ⟨rfl, rfl⟩; rw [hd]))
      go_ret2
      exact ⟨by rw [HL.out]; rfl, hB1.go hb1⟩
    have R3 : Hid (rl = citeV (if fe.2.2 ≠ 0 then (⟨#[]⟩, fe.2.2) else (bytesOf (spell (iAt a to)), 0))) := Lib.hid (by rw [R2.out, if_pos rfl, if_neg (by simp [hd])])
    have hto : 0 ≤ to ∧ to ≤ 99999 := by unfold dayB withinB at hd; simpa using hd
    clear R2 hpr hmem hnum
    obtain ⟨ft, fg, fn⟩ := fe
    dsimp only [findV] at R3 hfi
    by_cases hfn : fn = 0
    · have hfn' : (fn != 0) = false := by simpa using hfn
      have HL := Lib.hid (show rl = citeV (bytesOf (spell (iAt a to)), 0) by rw [R3.out, if_neg (by simpa using hfn)])
      clear R3 hfn
      go_enter Tryz.func20, Tryz.ntmps20
      go_wp2_with (first | (go_at_call 33; refine hck1.mono ?_; rintro e w1 ⟨rfl, hb1⟩; obtain ⟨hc1, hf1⟩ := bcell hb1) | (go_at_call 34; refine (day_any _ _).mono ?_; rintro e w' ⟨rfl, rfl⟩; rw [hd]))
      refine (hfi _ (hB1.go hb1)).mono ?_
      rintro e w2 ⟨rfl, hb2⟩
      have HB := Lib.hid ((hB1.go hb1).go hb2)
      clear hck1 hfi hb1 hb2 hc1 hf1 hB1
      have HGG := Lib.hid (hGb _ HB.out)
      have HR : Hid (Rd EI.f EI.k (w2.alloc (.cells #[.iface 3 (.int .i64 a), .iface 9 (.string ⟨#[64]⟩), .iface 3 (.int .i64 to)] 20)) (.slice (some ⟨w2.heap.size, 0, none⟩) 3 3) (iAt a to)) := Lib.hid (rd_block EI (iAt a to) (by simp [iAt]) (World.alloc_heap_new w2 _))
      have HFT : Hid (∀ y ∈ iAt a to, y.fits) := Lib.hid fun y hy => by
        simp only [iAt, List.mem_cons, List.not_mem_nil, or_false] at hy
        rcases hy with rfl | rfl | rfl
        · exact hat
        · show bAt.size ≤ 1000; decide
        · show _ ∧ _; omega
      go_wp2_with (first | (go_at_call 38; refine (spelled_any _ (iAt a to) _ HR.out (by simp [iAt]) HFT.out (HGG.out.below ((Below.refl _ _).alloc (Nat.le_refl _) _))).mono ?_; rintro e w3 ⟨rfl, hb3⟩))
      go_ret2
      exact ⟨by rw [HL.out]; rfl, HB.out.go (((Below.refl _ _).alloc (Nat.le_refl _) _).go hb3)⟩
    · have hfn' : (fn != 0) = true := by simpa using hfn
      have HL := Lib.hid (show rl = citeV (⟨#[]⟩, fn) by rw [R3.out, if_pos hfn])
      clear R3 hfn
      go_enter Tryz.func20, Tryz.ntmps20
      go_wp2_with (first | (go_at_call 33; refine hck1.mono ?_; rintro e w1 ⟨rfl, hb1⟩; obtain ⟨hc1, hf1⟩ := bcell hb1) | (go_at_call 34; refine (day_any _ _).mono ?_; rintro e w' ⟨rfl, rfl⟩; rw [hd]))
      refine (hfi _ (hB1.go hb1)).mono ?_
      rintro e w2 ⟨rfl, hb2⟩
      have HB := Lib.hid ((hB1.go hb1).go hb2)
      clear hck1 hfi hb1 hb2 hc1 hf1 hB1
      go_wp2
      go_ret2
      exact ⟨by rw [HL.out]; rfl, HB.out⟩
  · have R3 : Hid (rl = citeV (citeR n0 pl a style)) := Lib.hid (by rw [R2.out, if_neg h3])
    have hs2 : (style == 2) = false := by simpa using h3
    have hpr0 := hpr h0
    have hmem0 := Lib.hid (hmem.out h0)
    have hnum0 := hnum.out h0
    obtain ⟨m1, m2, m3⟩ := hnum0
    clear R2 hpr hfi hmem hnum h0
    go_enter Tryz.func20, Tryz.ntmps20
    go_wp2_with (first | (go_at_call 33; refine hck1.mono ?_; rintro e w1 ⟨rfl, hb1⟩; obtain ⟨hc1, hf1⟩ := bcell hb1))
    refine (hpr0 _ (hB1.go hb1)).mono ?_
    rintro e w2 ⟨pv, rfl, hO, hb2⟩
    have HB := Lib.hid ((hB1.go hb1).go hb2)
    have hzz : w.heap.size < w2.heap.size := by
      have q1 := hb1.size; have q2 := hb2.size; rw [World.size_alloc] at q1; omega
    have hvc : Hid (∀ W, Below w2.heap.size w2 W → w.heap.size < W.heap.size ∧ W.cell? ⟨w.heap.size, 0, none⟩ = some (.int .i64 n0)) := Lib.hid fun W hW => by
      refine ⟨Nat.lt_of_lt_of_le hzz hW.size, ?_⟩
      have q1 := hb1.size; rw [World.size_alloc] at q1
      rw [hW.cell (p := ⟨w.heap.size, 0, none⟩) hzz, hb2.cell (p := ⟨w.heap.size, 0, none⟩) (Nat.lt_of_lt_of_le (Nat.lt_succ_self _) q1), hb1.cell (p := ⟨w.heap.size, 0, none⟩) (by simp)]
      simp [go_sem]
    have hR := hO.rd
    obtain ⟨A1, c1, rfl, hc1', hm1', hro⟩ := id hR
    have HGG := Lib.hid (hGb _ HB.out)
    clear hck1 hpr0 hb1 hb2 hc1 hf1 hB1 hO hR hGb
    go_wp2
    go_loopg [60] pl.length (fun gg s60 wr => ∃ kk : Nat, kk ≤ pl.length ∧ pl.length - kk ≤ gg ∧ s60 = .int .i64 kk ∧ Aside ((∀ j (_ : j < pl.length), j < kk → pl[j].anchor ≠ a) ∧ Below w2.heap.size w2 wr))
    case atStart => exact ⟨0, Nat.zero_le _, by omega, rfl, fun j _ h => absurd h (Nat.not_lt_zero _), Below.refl _ _⟩
    case round =>
      obtain ⟨kk, hkk, hg, rfl, A2⟩ := hrel
      have hBw := A2.out.2
      have HNO := Lib.hid A2.out.1
      by_cases hlt : kk < pl.length
      · obtain ⟨b, off, rfl, hb, hr1⟩ := hro (by omega)
        clear hro
        have hc' := hr1.below hb hBw kk hlt
        have hmm := hmem0.out _ (List.getElem_mem hlt)
        have hbW : b < wr.heap.size := Nat.lt_of_lt_of_le hb hBw.size
        obtain ⟨q0, q1⟩ := hvc.out wr hBw
        have HBw := Lib.hid hBw
        have hz := hBw.size
        have hin : Hid (∀ cs t, Below w2.heap.size w2 (wr.alloc (.cells cs t))) := Lib.hid fun cs t => hBw.alloc hz _
        have HGr := Lib.hid (HGG.out.below hBw)
        clear A2 hr1 hBw
        by_cases ha : pl[kk].anchor = a
        · have HL := Lib.hid (show rl = citeV (citeP n0 style pl[kk], 0) by rw [R3.out]; unfold citeR; rw [find_at hlt ha HNO.out])
          generalize pl[kk] = y at hc' hmm ha HL
          obtain ⟨y0, y1, y2, y3, y4, y5⟩ := y
          have d0 := hc' 0 _ rfl; have d1 := hc' 1 _ rfl; have d2 := hc' 2 _ rfl; have d3 := hc' 3 _ rfl; have d4 := hc' 4 _ rfl; have d5 := hc' 5 _ rfl
          clear hc'
          simp only [Nat.add_zero, show EPr.k = 6 from rfl] at d0 d1 d2 d3 d4 d5
          dsimp only at ha hmm
          subst ha
          obtain ⟨p1, p2, p3, p4, p5, p6, p7, p8⟩ := hmm
          have hne : (y0 != y0) = false := by simp
          by_cases hs0 : style = 0
          · subst hs0
            have HR : Hid (Rd EI.f EI.k ((wr.alloc (.cells #[.int .i64 y0, .int .i64 y1, .int .i64 y2, .int .i64 y3, .int .i64 y4, .int .i64 y5] 103)).alloc (.cells #[.iface 9 (.string ⟨#[118, 111, 108, 46, 32]⟩), .iface 3 (.int .i64 n0), .iface 9 (.string ⟨#[44, 32, 99, 111, 108, 46, 32]⟩), .iface 3 (.int .i64 y1), .iface 9 (.string ⟨#[44, 32, 108, 46, 32]⟩), .iface 3 (.int .i64 y2)] 20)) (.slice (some ⟨wr.heap.size + 1, 0, none⟩) 6 6) (iCol n0 ⟨y0, y1, y2, y3, y4, y5⟩)) := Lib.hid (rd_block EI (iCol n0 ⟨y0, y1, y2, y3, y4, y5⟩) (by simp [iCol]) (by
              have h := World.alloc_heap_new (wr.alloc (.cells #[.int .i64 y0, .int .i64 y1, .int .i64 y2, .int .i64 y3, .int .i64 y4, .int .i64 y5] 103)) (.cells #[.iface 9 (.string ⟨#[118, 111, 108, 46, 32]⟩), .iface 3 (.int .i64 n0), .iface 9 (.string ⟨#[44, 32, 99, 111, 108, 46, 32]⟩), .iface 3 (.int .i64 y1), .iface 9 (.string ⟨#[44, 32, 108, 46, 32]⟩), .iface 3 (.int .i64 y2)] 20)
              rw [World.size_alloc] at h; exact h))
            have HFT : Hid (∀ y ∈ iCol n0 ⟨y0, y1, y2, y3, y4, y5⟩, y.fits) := Lib.hid fun y hy => by
              simp only [iCol, List.mem_cons, List.not_mem_nil, or_false] at hy
              rcases hy with rfl | rfl | rfl | rfl | rfl | rfl
              · show bVol.size ≤ 1000; decide
              · show _ ∧ _; omega
              · show bCol.size ≤ 1000; decide
              · show _ ∧ _; omega
              · show bL.size ≤ 1000; decide
              · show _ ∧ _; omega
            go_wp2_with (first | (go_at_call 38; refine (spelled_any _ (iCol n0 ⟨y0, y1, y2, y3, y4, y5⟩) _ HR.out (by simp [iCol]) HFT.out (HGr.out.below (((Below.refl _ _).alloc (Nat.le_refl _) _).alloc (by simp) _))).mono ?_; rintro e w3 ⟨rfl, hb3⟩))
            go_ret2
            exact ⟨by rw [HL.out]; rfl, (HB.out.go HBw.out).go ((((Below.refl _ _).alloc (Nat.le_refl _) _).alloc (by simp) _).go hb3)⟩
          · have hs1 : (style == 0) = false := by simpa using hs0
            have HL1 := Lib.hid (show rl = citeV (bytesOf (spell (iNum n0 ⟨y0, y1, y2, y3, y4, y5⟩)), 0) by rw [HL.out]; unfold citeP; rw [if_neg hs0])
            have HR : Hid (Rd EI.f EI.k ((wr.alloc (.cells #[.int .i64 y0, .int .i64 y1, .int .i64 y2, .int .i64 y3, .int .i64 y4, .int .i64 y5] 103)).alloc (.cells #[.iface 9 (.string ⟨#[118, 111, 108, 46, 32]⟩), .iface 3 (.int .i64 n0), .iface 9 (.string ⟨#[44, 32]⟩), .iface 3 (.int .i64 y4), .iface 9 (.string ⟨#[44, 32, 112, 97, 114, 46, 32]⟩), .iface 3 (.int .i64 y5)] 20)) (.slice (some ⟨wr.heap.size + 1, 0, none⟩) 6 6) (iNum n0 ⟨y0, y1, y2, y3, y4, y5⟩)) := Lib.hid (rd_block EI (iNum n0 ⟨y0, y1, y2, y3, y4, y5⟩) (by simp [iNum]) (by
              have h := World.alloc_heap_new (wr.alloc (.cells #[.int .i64 y0, .int .i64 y1, .int .i64 y2, .int .i64 y3, .int .i64 y4, .int .i64 y5] 103)) (.cells #[.iface 9 (.string ⟨#[118, 111, 108, 46, 32]⟩), .iface 3 (.int .i64 n0), .iface 9 (.string ⟨#[44, 32]⟩), .iface 3 (.int .i64 y4), .iface 9 (.string ⟨#[44, 32, 112, 97, 114, 46, 32]⟩), .iface 3 (.int .i64 y5)] 20)
              rw [World.size_alloc] at h; exact h))
            have HFT : Hid (∀ y ∈ iNum n0 ⟨y0, y1, y2, y3, y4, y5⟩, y.fits) := Lib.hid fun y hy => by
              simp only [iNum, List.mem_cons, List.not_mem_nil, or_false] at hy
              rcases hy with rfl | rfl | rfl | rfl | rfl | rfl
              · show bVol.size ≤ 1000; decide
              · show _ ∧ _; omega
              · show bSep.size ≤ 1000; decide
              · show _ ∧ _; omega
              · show bPar.size ≤ 1000; decide
              · show _ ∧ _; omega
            clear HL
            go_wp2_with (first | (go_at_call 38; refine (spelled_any _ (iNum n0 ⟨y0, y1, y2, y3, y4, y5⟩) _ HR.out (by simp [iNum]) HFT.out (HGr.out.below (((Below.refl _ _).alloc (Nat.le_refl _) _).alloc (by simp) _))).mono ?_; rintro e w3 ⟨rfl, hb3⟩))
            go_ret2
            exact ⟨by rw [HL1.out]; rfl, (HB.out.go HBw.out).go ((((Below.refl _ _).alloc (Nat.le_refl _) _).alloc (by simp) _).go hb3)⟩
        · have HN2 : Hid (∀ j (_ : j < pl.length), j < kk + 1 → pl[j].anchor ≠ a) := Lib.hid fun j hj hjk => by
            by_cases e : j = kk
            · subst e; exact ha
            · exact HNO.out j hj (by omega)
          generalize pl[kk] = y at hc' ha
          obtain ⟨y0, y1, y2, y3, y4, y5⟩ := y
          have d0 := hc' 0 _ rfl; have d1 := hc' 1 _ rfl; have d2 := hc' 2 _ rfl; have d3 := hc' 3 _ rfl; have d4 := hc' 4 _ rfl; have d5 := hc' 5 _ rfl
          clear hc'
          simp only [Nat.add_zero, show EPr.k = 6 from rfl] at d0 d1 d2 d3 d4 d5
          dsimp only at ha
          have hne : (y0 != a) = true := by simpa using ha
          go_wp2
          go_roundg (pl.length - (kk + 1))
          case measure => exact measT hg hlt
          case rel => exact ⟨kk + 1, hlt, Nat.le_refl _, by go_num, HN2.out, hin.out _ _⟩
      · have : kk = pl.length := by omega
        subst this
        have HL := Lib.hid (show rl = citeV (⟨#[]⟩, 7) by rw [R3.out]; unfold citeR; rw [find_no HNO.out])
        have HBw := Lib.hid hBw
        clear A2 hro hBw
        go_wp2
        go_ret2
        exact ⟨by rw [HL.out]; rfl, HB.out.go HBw.out⟩
end Go.Proofs.YtjkmdpejcgepkaaGreatDoor
