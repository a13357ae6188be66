/- print: the walk. -/
import Derived.Test.YtjkmdpejcgepkaaGreatDoorCC
import Derived.IntWalk
namespace Go.Proofs.YtjkmdpejcgepkaaGreatDoor
open Go.RowKit
theorem printL_take (ht wd : Int) (days : List Int) (rows : List (List Entry)) (k : Nat) (hk : k < rows.length) :
    printL ht wd days (rows.take (k + 1)) = printL ht wd days (rows.take k) ++ rowPr ht wd (colEnd ht wd (rows.take k)) (days.getD k 0) (0, 0) rows[k] := by
  unfold printL
  have hl : (rows.take k).length = k := by rw [List.length_take]; omega
  have hl1 : (rows.take (k + 1)).length = k + 1 := by rw [List.length_take]; omega
  rw [hl, hl1, List.range_succ, List.flatMap_append]
  congr 1
  · rw [List.flatMap_def, List.flatMap_def]
    congr 1
    apply List.map_congr_left
    intro i hi
    have hi : i < k := by simpa using hi
    simp only [List.take_take, List.getD_eq_getElem?_getD, List.getElem?_take]
    rw [Nat.min_eq_left (by omega), Nat.min_eq_left (by omega), if_pos (by omega), if_pos hi]
  · simp only [List.flatMap_cons, List.flatMap_nil, List.append_nil, List.take_take, List.getD_eq_getElem?_getD, List.getElem?_take]
    rw [Nat.min_eq_left (by omega), if_pos (by omega), List.getElem?_eq_getElem hk]
    rfl
theorem rowPr_le (ht wd col day : Int) (s : Int × Int) (r : List Entry) : (rowPr ht wd col day s r).length ≤ r.length := by
  induction r generalizing s with
  | nil => simp [rowPr]
  | cons e r ih =>
    rw [rowPr]
    split
    · have := ih s; simp only [List.length_cons]; omega
    · have := ih (s.1 + linesOf wd e.text, s.2 + 1); simp only [List.length_cons]; omega
theorem flatMap_le {α β : Type} (l : List α) (f : α → List β) (n : Nat) (h : ∀ i ∈ l, (f i).length ≤ n) : (l.flatMap f).length ≤ l.length * n := by
  induction l with
  | nil => simp
  | cons a l ih =>
    have h1 := h a (List.mem_cons_self ..)
    have h2 := ih fun i hi => h i (List.mem_cons_of_mem _ hi)
    rw [List.flatMap_cons, List.length_append, List.length_cons, Nat.add_mul, Nat.one_mul]
    omega
theorem printL_le (ht wd : Int) (days : List Int) (rows : List (List Entry)) (n : Nat) (h : ∀ r ∈ rows, r.length ≤ n) : (printL ht wd days rows).length ≤ rows.length * n := by
  have := flatMap_le (List.range rows.length) (fun i => rowPr ht wd (colEnd ht wd (rows.take i)) (days.getD i 0) (0, 0) (rows.getD i [])) n (fun i hi => by
    have hi : i < rows.length := by simpa using hi
    refine Nat.le_trans (rowPr_le ..) ?_
    rw [List.getD_eq_getElem?_getD, List.getElem?_eq_getElem hi]
    exact h _ (List.getElem_mem hi))
  rwa [List.length_range] at this
theorem rd_one {α : Type} (E : Enc α) {W : World} {b : Nat} {t : TypeId} {fr : Nat × Nat} (y : α) (h : W.heap[b]? = some (.cells (E.f y).toArray t fr)) : Rd E.f E.k W (.slice (some ⟨b, 0, none⟩) 1 1) [y] := by
  refine ⟨_, 1, rfl, by simp, by simp, fun _ => ⟨_, _, rfl, (Array.getElem?_eq_some_iff.1 h).1, fun j hj i u hu => ?_⟩⟩
  obtain rfl : j = 0 := by simpa using hj
  simp only [List.getElem_cons_zero] at hu
  simp only [World.cell?, h, Nat.zero_mul, Nat.zero_add]
  simpa using hu
theorem measT {n k g : Nat} (h : n - k ≤ g) (hl : k < n) : n - (k + 1) < g := by omega
def PrintPost (w : World) (l : List Pr) (e : Ending) (w' : World) : Prop := ∃ v, e = .returned v ∧ Own EPr 103 w' w.heap.size v l ∧ Below w.heap.size w w'
set_option maxHeartbeats 4000000 in
set_option maxRecDepth 100000 in
theorem print_any (v ev : Value) (x : Vol) (errata : List Err) (w : World) (hv : IsVol w v x) (hs : x.small) (he : RdE w ev errata) (hl : errata.length ≤ 1000) (hk : ∀ y ∈ errata, okKind y)
    (h1 : 1 ≤ x.height) (h2 : x.height ≤ 1000) (h3 : 1 ≤ x.width) (h4 : x.width ≤ 1000) (htx : TextsLe 1000000 (afterR x errata x.bound)) :
    Calls Tryz.prog 37 #[v, ev] w (PrintPost w (printV x errata)) := by
  obtain ⟨sv, rfl, A, c, rfl, hc, hm, hr⟩ := id hv
  obtain ⟨A0, c0, rfl, -⟩ := id he
  have haf : ∀ W, Below w.heap.size w W → Calls Tryz.prog 35 #[x.val (.slice A x.parts.length c), .slice A0 errata.length c0, .int .i64 x.bound] W (AfterPost W (afterR x errata x.bound)) := fun W hW =>
    after_any _ _ x errata x.bound W (hv.below hW) hs (Rd.below he hW) hl hk
  have hsm := afterR_small x errata x.bound hs hl
  have hrl := afterR_length x errata x.bound
  have R : Hid (printV x errata = printL x.height x.width (x.parts.map (·.day)) (afterR x errata x.bound)) := Lib.hid rfl
  clear hv hs
  obtain ⟨n0, n1, n2, n3, ps⟩ := x
  dsimp only [Vol.val] at haf R hc hm hr hrl h1 h2 h3 h4 htx hsm ⊢
  generalize printV _ _ = rl at R ⊢
  generalize afterR _ _ _ = rows at R haf hsm hrl htx
  have hB1 : Below w.heap.size w (w.alloc (.cells #[.int .i64 n0, .int .i64 n1, .int .i64 n2, .int .i64 n3, .slice A ps.length c] 37)) := (Below.refl _ _).alloc (Nat.le_refl _) _
  have haf1 := haf _ hB1
  have HRL := Lib.hid hrl
  clear haf hrl
  go_enter Tryz.func37, Tryz.ntmps37
  go_wp2_with (go_at_call 35; refine haf1.mono ?_; rintro e w2 ⟨eb, rfl, hE, hb2⟩; obtain ⟨A1, c1, ss, k5, hsl, hRo, hRr⟩ := hE.reads; have lE := hE.lt.2)
  have hB2 := Lib.hid ((hB1).go hb2)
  have hBx : Below (w.heap.size + 1) (w.alloc (.cells #[.int .i64 n0, .int .i64 n1, .int .i64 n2, .int .i64 n3, .slice A ps.length c] 37)) w2 := by
    have h := hb2; rwa [World.size_alloc] at h
  have hz2 : w.heap.size + 1 ≤ w2.heap.size := by have h := hBx.size; rwa [World.size_alloc] at h
  have hvc : Hid (∀ W, Below w2.heap.size w2 W → w.heap.size < W.heap.size ∧ W.cell? ⟨w.heap.size, 2, none⟩ = some (.int .i64 n2) ∧ W.cell? ⟨w.heap.size, 3, none⟩ = some (.int .i64 n3) ∧ W.cell? ⟨w.heap.size, 4, none⟩ = some (.slice A ps.length c)) := Lib.hid fun W hW => by
    have hBw := hBx.trans (hW.mono hz2)
    have hzz := hW.size
    refine ⟨by omega, ?_, ?_, ?_⟩ <;> (rw [hBw.cell (p := ⟨w.heap.size, _, none⟩) (by simp)]; simp [go_sem])
  obtain ⟨A1', c1', e1, -, -, hro⟩ := id hRo
  rw [hsl] at e1
  simp only [Value.slice.injEq] at e1
  obtain ⟨rfl, -, rfl⟩ := e1
  clear haf1 hb2 hB1 hE hRo hBx
  have hr100 : rows.length ≤ 100 := hsm.1
  have hrn := Lib.hid hsm.2
  have HTX := Lib.hid htx
  clear hsm htx
  go_loopg [4, 6, 24] rows.length (fun gg s4 s6 s24 wr => ∃ kk : Nat, kk ≤ rows.length ∧ rows.length - kk ≤ gg ∧ s24 = .int .i64 kk ∧ s6 = .int .i64 (colEnd n2 n3 (rows.take kk)) ∧ Aside (Own EPr 103 wr w2.heap.size s4 (printL n2 n3 (ps.map (·.day)) (rows.take kk)) ∧ Below w2.heap.size w2 wr ∧ Below w.heap.size w wr))
  case atStart => exact ⟨0, Nat.zero_le _, by omega, rfl, rfl, Own.nil _ _ _ _, Below.refl _ _, hB2.out⟩
  case round =>
    obtain ⟨kk, hkk, hg, rfl, rfl, A2⟩ := hrel
    have hO := A2.out.1
    have hBw := A2.out.2.1
    have hBB := A2.out.2.2
    by_cases hlt : kk < rows.length
    · obtain ⟨b, off, rfl, hb, hr1⟩ := hro (by omega)
      have hs := hr1.below hb hBw kk (by omega) 0 _ rfl
      simp only [show ES.k = 1 from rfl, Nat.mul_one, Nat.add_zero] at hs
      have hOr := hRr kk ss[kk] rows[kk] (List.getElem?_eq_getElem (by omega)) (List.getElem?_eq_getElem hlt)
      generalize ss[kk]'(by omega) = sl at hs hOr
      obtain ⟨A3, n3', c3⟩ := sl
      obtain ⟨A4, c4, e4, hc4, hm4, hr4⟩ := hOr
      dsimp only [Sl.val] at hs e4
      simp only [Value.slice.injEq] at e4
      obtain ⟨rfl, rfl, rfl⟩ := e4
      have hbW : b < wr.heap.size := Nat.lt_of_lt_of_le hb hBw.size
      have hkp : kk < ps.length := by rw [← HRL.out]; exact hlt
      obtain ⟨bp, offp, rfl, hbp, hpa⟩ := hr (by omega)
      have hday : Hid (∀ W, Below w.heap.size w W → bp < W.heap.size ∧ W.cell? ⟨bp, offp + kk * 2, none⟩ = some (.int .i64 ps[kk].day)) := Lib.hid fun W hW =>
        ⟨Nat.lt_of_lt_of_le hbp hW.size, ((hpa.below hbp hW) kk hkp).1⟩
      have hgd : (ps.map (·.day)).getD kk 0 = ps[kk].day := by simp [List.getD_eq_getElem?_getD, hkp]
      have htk : Hid (printL n2 n3 (ps.map (·.day)) (rows.take (kk + 1)) = printL n2 n3 (ps.map (·.day)) (rows.take kk) ++ rowPr n2 n3 (colEnd n2 n3 (rows.take kk)) ps[kk].day (0, 0) rows[kk]) := Lib.hid (by
        rw [printL_take _ _ _ _ _ hlt, hgd])
      have hce : Hid (colEnd n2 n3 (rows.take (kk + 1)) = colEnd n2 n3 (rows.take kk) + ((rowEnd n3 (0, 0) rows[kk]).1 + n2 - 1) / n2) := Lib.hid (by
        rw [List.take_succ_eq_append_getElem hlt, colEnd_snoc])
      have hcb := colEnd_le (m := 1000000) (n := 2000) h3 h4 h1 h2 (rows.take kk) (fun r hr => HTX.out r (List.mem_of_mem_take hr)) (fun r hr => hrn.out r (List.mem_of_mem_take hr))
      have hcb2 : 1 ≤ colEnd n2 n3 (rows.take kk) ∧ colEnd n2 n3 (rows.take kk) ≤ 1000000000000 := by
        have hl1 : (rows.take kk).length ≤ 100 := by rw [List.length_take]; omega
        have : ((rows.take kk).length : Int) * (((2000 : Nat) : Int) * (((1000000 : Nat) : Int) + 1000) + 1000) ≤ 100 * (((2000 : Nat) : Int) * (((1000000 : Nat) : Int) + 1000) + 1000) := Int.mul_le_mul_of_nonneg_right (by omega) (by omega)
        omega
      have hrw : rows[kk].length ≤ 2000 := hrn.out _ (List.getElem_mem hlt)
      have htxr := Lib.hid (HTX.out _ (List.getElem_mem hlt))
      have HBw := Lib.hid hBw; have HBB := Lib.hid hBB
      have hzw := hBB.size
      have hPl : (printL n2 n3 (ps.map (·.day)) (rows.take kk)).length ≤ 200000 := by
        have h := printL_le n2 n3 (ps.map (·.day)) (rows.take kk) 2000 (fun r hr => hrn.out r (List.mem_of_mem_take hr))
        have hl1 : (rows.take kk).length ≤ 100 := by rw [List.length_take]; omega
        have : (rows.take kk).length * 2000 ≤ 100 * 2000 := Nat.mul_le_mul_right _ hl1
        omega
      clear A2 hr1 hRr hBw hBB hgd hpa hr hcb HTX hrn
      generalize hr0 : rows[kk] = row at hs hr4 hm4 hc4 htk hrw hce htxr
      generalize printL n2 n3 (ps.map (·.day)) (rows.take kk) = P0 at hO htk hPl
      generalize colEnd n2 n3 (rows.take kk) = ce at htk hce hcb2 ⊢
      generalize ps[kk].day = dd at htk hday
      clear hr0
      rename World => wo
      go_wp2
      go_loopg [4, 9, 10, 31] row.length (fun gg s4 s9 s10 s31 wq => ∃ jj : Nat, jj ≤ row.length ∧ row.length - jj ≤ gg ∧ s31 = .int .i64 jj ∧ s9 = .int .i64 (rowEnd n3 (0, 0) (row.take jj)).1 ∧ s10 = .int .i64 (rowEnd n3 (0, 0) (row.take jj)).2 ∧ Aside (Own EPr 103 wq w2.heap.size s4 (P0 ++ rowPr n2 n3 ce dd (0, 0) (row.take jj)) ∧ Below w2.heap.size w2 wq ∧ Below w.heap.size w wq))
      case atStart => exact ⟨0, Nat.zero_le _, by omega, rfl, rfl, rfl, by simpa [rowPr] using hO, HBw.out, HBB.out⟩
      case round =>
        obtain ⟨jj, hjj, hg2, rfl, rfl, rfl, A5⟩ := hrel
        have hO2 := A5.out.1
        have hBw2 := A5.out.2.1
        have hBB2 := A5.out.2.2
        by_cases hlj : jj < row.length
        · obtain ⟨A6, c6, e6, _, _, hr6⟩ := Rd.below (enc := EN.f) (k := EN.k) (xs := row) ⟨A3, c3, rfl, hc4, hm4, hr4⟩ hBw2
          simp only [Value.slice.injEq] at e6
          obtain ⟨rfl, -, rfl⟩ := e6
          obtain ⟨b3, off3, rfl, hb3, hra⟩ := hr6 (by omega)
          have hc' := hra jj hlj
          have hrp : Hid (rowPr n2 n3 ce dd (0, 0) (row.take (jj + 1)) = rowPr n2 n3 ce dd (0, 0) (row.take jj) ++ (if row[jj].gone then [] else [prOf n2 n3 ce dd (rowEnd n3 (0, 0) (row.take jj)) row[jj]])) := Lib.hid (by
            rw [List.take_succ_eq_append_getElem hlj, rowPr_snoc])
          have hre : Hid (rowEnd n3 (0, 0) (row.take (jj + 1)) = if row[jj].gone then rowEnd n3 (0, 0) (row.take jj) else ((rowEnd n3 (0, 0) (row.take jj)).1 + linesOf n3 row[jj].text, (rowEnd n3 (0, 0) (row.take jj)).2 + 1)) := Lib.hid (by
            rw [List.take_succ_eq_append_getElem hlj, rowEnd_snoc])
          have hkl : (rowPr n2 n3 ce dd (0, 0) (row.take jj)).length ≤ 2000 := Nat.le_trans (rowPr_le ..) (by rw [List.length_take]; omega)
          have heb := rowEnd_le (m := 1000000) h3 h4 (row.take jj) (fun e he => htxr.out e (List.mem_of_mem_take he)) (0, 0) ⟨by simp, by simp⟩
          have htl : (row.take jj).length ≤ 2000 := by rw [List.length_take]; omega
          have heb2 : (((row.take jj).length : Nat) : Int) * (((1000000 : Nat) : Int) + 1000) ≤ 2000 * (((1000000 : Nat) : Int) + 1000) := Int.mul_le_mul_of_nonneg_right (by omega) (by omega)
          have heb3 : 0 ≤ (rowEnd n3 (0, 0) (row.take jj)).1 ∧ (rowEnd n3 (0, 0) (row.take jj)).1 ≤ 10000000000 ∧ 0 ≤ (rowEnd n3 (0, 0) (row.take jj)).2 ∧ (rowEnd n3 (0, 0) (row.take jj)).2 ≤ 10000 := by
            simp only at heb; omega
          have hyt := htxr.out _ (List.getElem_mem hlj)
          clear A5 hr6 hra hr4 heb heb2 htl
          generalize row[jj] = y at hc' hrp hre hyt
          generalize hrE : rowEnd n3 (0, 0) (row.take jj) = rE at hrp hre heb3 ⊢
          clear hrE
          obtain ⟨L, M⟩ := rE
          obtain ⟨y0, y1, y2⟩ := y
          dsimp only at hrp hre heb3 hyt ⊢
          obtain ⟨z1, z2, z3, z4⟩ := heb3
          have d0 := hc' 0 _ rfl; have d1 := hc' 1 _ rfl; have d2 := hc' 2 _ rfl
          clear hc'
          simp only [Nat.add_zero, show EN.k = 3 from rfl] at d0 d1 d2
          generalize rowPr n2 n3 ce dd (0, 0) (row.take jj) = P1 at hO2 hrp hkl
          have hO3 := hO2.alloc (.cells #[.int .i64 y0, .string y1, .bool y2] 95)
          have hO2lt : ∀ k, u4.ownBlock = some k → k < wr.heap.size := fun k e => (hO2.lt k e).2
          have HA := Lib.hid hBw2; have HAA := Lib.hid hBB2
          have hz5 := hBB2.size
          have hz6 := hBw2.size
          obtain ⟨q0, q1, q2, q3⟩ := hvc.out wr hBw2
          obtain ⟨q4, q5⟩ := hday.out wr hBB2
          have hb3' : b3 < wr.heap.size := hb3
          clear hO2 hBw2 hBB2
          cases y2
          · have e1 : L.tdiv n2 = L / n2 := Int.tdiv_eq_ediv_of_nonneg z1
            have b1 : 0 ≤ L / n2 := Int.ediv_nonneg z1 (by omega)
            have b2 : L / n2 ≤ L := Int.ediv_le_self n2 z1
            have e4 : L.tmod n2 = L % n2 := Int.tmod_eq_emod_of_nonneg z1
            have b3 : 0 ≤ L % n2 := Int.emod_nonneg L (by omega)
            have b4 : L % n2 < n2 := Int.emod_lt_of_pos L (by omega)
            generalize hqd : L / n2 = qd at b1 b2 e1
            generalize hqm : L % n2 = qm at b3 b4 e4
            have e2 : IntKind.i64.wrap qd = qd := IntWalk.i64_in _ (by omega)
            have e3 : IntKind.i64.wrap (ce + qd) = ce + qd := IntWalk.i64_in _ (by omega)
            have e5 : IntKind.i64.wrap qm = qm := IntWalk.i64_in _ (by omega)
            have e6 : IntKind.i64.wrap (qm + 1) = qm + 1 := IntWalk.i64_in _ (by omega)
            have g1 : (0 : Int) ≤ ↑kk := by omega
            have g2 : (kk : Int) < (ps.length : Int) := by omega
            have HQ := Lib.hid (And.intro hqd hqm)
            have n0 : ¬ n2 = 0 := by omega
            have n0' : (n2 == 0) = false := by simpa using n0
            clear hqd hqm
            go_wp2
            have c0 : (wr.alloc (.cells #[.int .i64 y0, .string y1, .bool false] 95)).cell? ⟨wr.heap.size, 0, none⟩ = some (.int .i64 y0) := by simp [go_sem]
            have b5 : 0 ≤ (↑y1.size + n3 - 1) / n3 := (linesOf_le h3 hyt h4).1
            have b6 : (↑y1.size + n3 - 1) / n3 ≤ 1001000 := by have h := (linesOf_le h3 hyt h4).2; unfold linesOf at h; omega
            generalize hln : (↑y1.size + n3 - 1) / n3 = ln at b5 b6 ⊢
            have HLN := Lib.hid hln
            clear hln
            have HO5 : Hid (Own EPr 103 ((wr.alloc (.cells #[.int .i64 y0, .string y1, .bool false] 95)).alloc (.cells #[.int .i64 y0, .int .i64 (ce + qd), .int .i64 (qm + 1), .int .i64 ln, .int .i64 dd, .int .i64 (M + 1)] 103)).drew w2.heap.size u4 (P0 ++ P1)) := Lib.hid (hO3.alloc _)
            have HR5 : Hid (Rd EPr.f EPr.k ((wr.alloc (.cells #[.int .i64 y0, .string y1, .bool false] 95)).alloc (.cells #[.int .i64 y0, .int .i64 (ce + qd), .int .i64 (qm + 1), .int .i64 ln, .int .i64 dd, .int .i64 (M + 1)] 103)).drew (.slice (some ⟨wr.heap.size + 1, 0, none⟩) 1 1) [⟨y0, ce + qd, qm + 1, ln, dd, M + 1⟩]) := Lib.hid (rd_one EPr ⟨y0, ce + qd, qm + 1, ln, dd, M + 1⟩ (by
              have h := World.alloc_heap_new (wr.alloc (.cells #[.int .i64 y0, .string y1, .bool false] 95)) (.cells #[.int .i64 y0, .int .i64 (ce + qd), .int .i64 (qm + 1), .int .i64 ln, .int .i64 dd, .int .i64 (M + 1)] 103)
              rw [World.size_alloc] at h; exact h))
            have HWB : Hid (Below wr.heap.size wr ((wr.alloc (.cells #[.int .i64 y0, .string y1, .bool false] 95)).alloc (.cells #[.int .i64 y0, .int .i64 (ce + qd), .int .i64 (qm + 1), .int .i64 ln, .int .i64 dd, .int .i64 (M + 1)] 103)).drew) := Lib.hid ((((Below.refl _ wr).alloc (Nat.le_refl _) _).alloc (by simp) _).drewN 1)
            have HZW : ((wr.alloc (.cells #[.int .i64 y0, .string y1, .bool false] 95)).alloc (.cells #[.int .i64 y0, .int .i64 (ce + qd), .int .i64 (qm + 1), .int .i64 ln, .int .i64 dd, .int .i64 (M + 1)] 103)).drew.heap.size = wr.heap.size + 2 := by show ((wr.alloc _).alloc _).heap.size = _; rw [World.size_alloc, World.size_alloc]
            have HNE : Hid (some wr.heap.size ≠ u4.ownBlock) := Lib.hid (fun e => by have h5 := hO2lt _ e.symm; omega)
            have hwl2 : w.heap.size < w2.heap.size := by have := hz2; omega
            have hbp2 : bp < w2.heap.size := by omega
            have CX : Hid (∀ w3, Below w2.heap.size ((wr.alloc (.cells #[.int .i64 y0, .string y1, .bool false] 95)).alloc (.cells #[.int .i64 y0, .int .i64 (ce + qd), .int .i64 (qm + 1), .int .i64 ln, .int .i64 dd, .int .i64 (M + 1)] 103)).drew w3 →
                ((wr.alloc (.cells #[.int .i64 y0, .string y1, .bool false] 95)).alloc (.cells #[.int .i64 y0, .int .i64 (ce + qd), .int .i64 (qm + 1), .int .i64 ln, .int .i64 dd, .int .i64 (M + 1)] 103)).drew.grownBy w3 u4.ownBlock →
                w3.cell? ⟨wr.heap.size, 0, none⟩ = some (.int .i64 y0) ∧ w3.cell? ⟨w.heap.size, 2, none⟩ = some (.int .i64 n2) ∧ w3.cell? ⟨w.heap.size, 4, none⟩ = some (.slice (some ⟨bp, offp, none⟩) ps.length c) ∧ w3.cell? ⟨bp, offp + kk * 2, none⟩ = some (.int .i64 dd)) := Lib.hid fun w3 f1 f2 => by
              refine ⟨?_, ?_, ?_, ?_⟩
              · rw [cell_far f2 ⟨wr.heap.size, 0, none⟩ (by rw [HZW]; exact Nat.lt_add_of_pos_right (by decide)) HNE.out]
                exact (World.cell?_alloc_past (w := wr.alloc _) _ wr.heap.size 0 (by simp)).trans c0
              · exact (f1.cell (p := ⟨w.heap.size, 2, none⟩) hwl2).trans ((HWB.out.cell (p := ⟨w.heap.size, 2, none⟩) q0).trans q1)
              · exact (f1.cell (p := ⟨w.heap.size, 4, none⟩) hwl2).trans ((HWB.out.cell (p := ⟨w.heap.size, 4, none⟩) q0).trans q3)
              · exact (f1.cell (p := ⟨bp, offp + kk * 2, none⟩) hbp2).trans ((HWB.out.cell (p := ⟨bp, offp + kk * 2, none⟩) q4).trans q5)
            have hbs : w2.heap.size ≤ ((wr.alloc (.cells #[.int .i64 y0, .string y1, .bool false] 95)).alloc (.cells #[.int .i64 y0, .int .i64 (ce + qd), .int .i64 (qm + 1), .int .i64 ln, .int .i64 dd, .int .i64 (M + 1)] 103)).drew.heap.size := by rw [HZW]; omega
            have hll : ((P0 ++ P1).length + 1) * 48 ≤ 140737488355328 := by rw [List.length_append]; omega
            clear hO3 HZW
            go_region_held3 (fun w' => w'.cell? ⟨wr.heap.size, 0, none⟩ = some (.int .i64 y0) ∧ w'.cell? ⟨w.heap.size, 2, none⟩ = some (.int .i64 n2) ∧ w'.cell? ⟨w.heap.size, 4, none⟩ = some (.slice (some ⟨bp, offp, none⟩) ps.length c) ∧ w'.cell? ⟨bp, offp + kk * 2, none⟩ = some (.int .i64 dd)) (go_keep)
              (first | (refine step_append_rd EPr w2.heap.size (by rfl) _ _ 100 103 _ 48 (by rfl) Tryz.underlying100 Tryz.infoPrinted rfl (by decide) u4 (.slice (some ⟨wr.heap.size + 1, 0, none⟩) 1 1) (P0 ++ P1) [⟨y0, ce + qd, qm + 1, ln, dd, M + 1⟩] rfl rfl HO5.out HR5.out hbs hll ?_; intro v1 w3 hO4 hg4 hb4 hat4; obtain ⟨x0, x1, x2, x3⟩ := CX.out w3 hb4 hg4))
            go_wp2
            go_roundg (row.length - (jj + 1))
            case measure => exact measT hg2 hlj
            case rel =>
              have hin : Below w2.heap.size wr w3 := (HWB.out.mono hz6).trans hb4
              refine ⟨jj + 1, hlj, Nat.le_refl _, by go_num, by rw [hre.out, ← HLN.out]; rfl, by rw [hre.out]; rfl, ?_, HA.out.trans hin, HAA.out.trans (hin.mono (Nat.le_of_lt hwl2))⟩
              have e := hO4
              rw [← HQ.out.1, ← HQ.out.2, ← HLN.out, List.append_assoc] at e
              rw [hrp.out]
              exact e
          · go_wp2
            go_roundg (row.length - (jj + 1))
            case measure => omega
            case rel =>
              have hin : Below wr.heap.size wr (wr.alloc (.cells #[.int .i64 y0, .string y1, .bool true] 95)) := (Below.refl _ wr).alloc (Nat.le_refl _) _
              refine ⟨jj + 1, by omega, by omega, by go_num, by rw [hre.out]; rfl, by rw [hre.out]; rfl, ?_, HA.out.go hin, HAA.out.go hin⟩
              rw [hrp.out]; simpa using hO3
        · have : jj = row.length := by omega
          subst this
          rw [List.take_length] at hO2 ⊢
          clear A5
          have heb := rowEnd_le (m := 1000000) h3 h4 row (fun e he => htxr.out e he) (0, 0) ⟨by simp, by simp⟩
          have heb2 : ((row.length : Nat) : Int) * (((1000000 : Nat) : Int) + 1000) ≤ 2000 * (((1000000 : Nat) : Int) + 1000) := Int.mul_le_mul_of_nonneg_right (by omega) (by omega)
          have heb3 : 0 ≤ (rowEnd n3 (0, 0) row).1 ∧ (rowEnd n3 (0, 0) row).1 ≤ 10000000000 := by
            simp only at heb; omega
          obtain ⟨z1, z2⟩ := heb3
          obtain ⟨q0, q1, q2, q3⟩ := hvc.out wr hBw2
          clear heb heb2
          generalize (rowEnd n3 (0, 0) row).1 = L at hce z1 z2 ⊢
          have b1 : 0 ≤ (L + n2 - 1) / n2 := Int.ediv_nonneg (by omega) (by omega)
          have b2 : (L + n2 - 1) / n2 ≤ L + n2 - 1 := Int.ediv_le_self n2 (by omega)
          have b3 : (L + n2 - 1) / n2 ≤ 20000000000 := by omega
          clear b2
          go_wp2
          go_roundg (rows.length - (kk + 1))
          case measure => exact measT hg hlt
          case rel => exact ⟨kk + 1, hlt, Nat.le_refl _, by go_num, by rw [hce.out], by rw [htk.out]; exact hO2, hBw2, hBB2⟩
    · have : kk = rows.length := by omega
      subst this
      rw [List.take_length] at hO
      have HZ := Lib.hid hB2.out.size
      clear A2 hro hRr hvc hrn HTX hsl hl hr100 h1 h2 h3 h4 hc hm hr he hk hz2 hkk hlt hBw
      generalize colEnd n2 n3 (rows.take rows.length) = ce
      go_wp2
      first | go_ret | skip
      exact ⟨_, rfl, by rw [R.out]; exact hO.lower HZ.out, hBB⟩
end Go.Proofs.YtjkmdpejcgepkaaGreatDoor
