/- Read, Find. -/
import Derived.Test.YtjkmdpejcgepkaaGreatDoorCB
namespace Go.Proofs.YtjkmdpejcgepkaaGreatDoor
open Go.RowKit
theorem IsEd.reads {w : World} {base eb : Nat} {rows : List (List Entry)} (h : IsEd w base eb rows) : ∃ A c ss, w.cell? ⟨eb, 5, none⟩ = some (.slice A rows.length c) ∧ ss.length = rows.length ∧ Rd ES.f ES.k w (.slice A rows.length c) ss ∧
    (∀ (j : Nat) (s : Sl) (r : List Entry), ss[j]? = some s → rows[j]? = some r → Rd EN.f EN.k w s.val r) := by
  obtain ⟨cs, ov, ss, h0, h1, h2, h3, h4, h5, h6, h7⟩ := h
  have hr := h4.rd
  obtain ⟨A, c, rfl, -⟩ := id hr
  rw [h5] at h3 hr
  exact ⟨A, c, ss, by simp [World.cell?, h1, h3], h5, hr, fun j s r q1 q2 => (h6 j s r q1 q2).rd⟩
def keptP (r : List Entry) : List Para := (r.filter fun e => !e.gone).map fun e => ⟨e.anchor, e.text⟩
def readP (rows : List (List Entry)) : List Para := rows.flatMap keptP
theorem keptP_snoc (r : List Entry) (e : Entry) : keptP (r ++ [e]) = if e.gone then keptP r else keptP r ++ [⟨e.anchor, e.text⟩] := by
  unfold keptP
  cases e with
  | mk a t g => cases g <;> simp [List.filter_append]
theorem readP_snoc (rows : List (List Entry)) (r : List Entry) : readP (rows ++ [r]) = readP rows ++ keptP r := by simp [readP]
theorem keptP_le (r : List Entry) : (keptP r).length ≤ r.length := by
  unfold keptP; rw [List.length_map]; exact List.length_filter_le _ _
theorem readP_le {n : Nat} (rows : List (List Entry)) (h : ∀ r ∈ rows, r.length ≤ n) : (readP rows).length ≤ rows.length * n := by
  induction rows with
  | nil => simp [readP]
  | cons r rs ih =>
    have h1 := h r (List.mem_cons_self ..)
    have h2 := ih fun q hq => h q (List.mem_cons_of_mem _ hq)
    have h3 := keptP_le r
    unfold readP at h2 ⊢
    rw [List.flatMap_cons, List.length_append, List.length_cons, Nat.add_mul, Nat.one_mul]
    omega
theorem checkE_ok {x : Vol} {errata : List Err} (h : checkE x errata = 0) : checkVol x = 0 ∧ errata.length ≤ 20 ∧ errata.all Err.ok = true ∧ fresh (ancs x.paras).reverse [] errata = true ∧ anchored x errata = 0 := by
  unfold checkE at h
  split at h
  · rename_i h0; exact absurd h h0
  · rename_i h0
    split at h
    · simp at h
    · rename_i h1
      split at h
      · simp at h
      · rename_i h2
        split at h
        · simp at h
        · rename_i h3
          exact ⟨by simpa using h0, by omega, by simpa using h2, by simpa using h3, h⟩
theorem ok_kind {x : Err} (h : x.ok = true) : okKind x := by
  unfold Err.ok at h
  rw [Bool.and_eq_true] at h
  have h2 := h.2
  unfold okKind
  split at h2
  · exact .inl ‹_›
  · split at h2
    · exact .inr (.inl ‹_›)
    · split at h2
      · exact .inr (.inr ‹_›)
      · simp at h2
def readE (x : Vol) (errata : List Err) (to : Int) : Int := if checkE x errata ≠ 0 then checkE x errata else if dayB to = false then 2 else 0
def readL (x : Vol) (errata : List Err) (to : Int) : List Para := if readE x errata to = 0 then readP (afterR x errata to) else []
def ReadPost (w : World) (n : Int) (l : List Para) (e : Ending) (w' : World) : Prop := ∃ v, e = .returned (.tuple #[v, .int .i64 n]) ∧ Own EP 67 w' w.heap.size v l ∧ Below w.heap.size w w'
theorem afterR_small (x : Vol) (errata : List Err) (to : Int) (hs : x.small) (hl : errata.length ≤ 1000) : Small 2000 (afterR x errata to) := by
  have h0 := small_fold (small_rows0 (ps := x.parts) ⟨hs.1, fun p hp => (hs.2 p hp).1⟩) (issuedL errata to)
  have h1 : (issuedL errata to).length ≤ errata.length := by
    unfold issuedL
    rw [← (sortE_spec errata).2.1]
    exact (List.takeWhile_sublist _).length_le
  exact ⟨h0.1, fun r hr => Nat.le_trans (h0.2 r hr) (by omega)⟩
set_option maxHeartbeats 4000000 in
theorem Read_any (v ev : Value) (x : Vol) (errata : List Err) (to : Int) (w : World) (hv : IsVol w v x) (hs : x.small) (he : RdE w ev errata) (hl : errata.length ≤ 1000) (hf : ∀ y ∈ errata, y.fits) :
    Calls Tryz.prog 13 #[v, ev, .int .i64 to] w (ReadPost w (readE x errata to) (readL x errata to)) := by
  obtain ⟨sv, rfl, A, c, rfl, hc, hm, hr⟩ := id hv
  obtain ⟨A0, c0, rfl, -⟩ := id he
  have hck : ∀ W, Below w.heap.size w W → Calls Tryz.prog 33 #[x.val (.slice A x.parts.length c), .slice A0 errata.length c0] W fun e w' => e = .returned (.int .i64 (checkE x errata)) ∧ Below W.heap.size W w' := fun W hW =>
    check_any _ _ x errata W (hv.below hW) hs (Rd.below he hW) (by omega) hf
  have haf : checkE x errata = 0 → ∀ W, Below w.heap.size w W → Calls Tryz.prog 35 #[x.val (.slice A x.parts.length c), .slice A0 errata.length c0, .int .i64 to] W (AfterPost W (afterR x errata to)) := fun h0 W hW =>
    after_any _ _ x errata to W (hv.below hW) hs (Rd.below he hW) hl (fun y hy => ok_kind (List.all_eq_true.1 (checkE_ok h0).2.2.1 y hy))
  have hsm := afterR_small x errata to hs hl
  have R : Hid (readE x errata to = if checkE x errata ≠ 0 then checkE x errata else if dayB to = false then 2 else 0) := Lib.hid rfl
  have RL : Hid (readL x errata to = if readE x errata to = 0 then readP (afterR x errata to) else []) := Lib.hid rfl
  clear hv hs hr
  obtain ⟨n0, n1, n2, n3, ps⟩ := x
  dsimp only [Vol.val] at hck haf R RL hc hm ⊢
  generalize readL _ _ _ = rl at RL ⊢
  generalize readE _ _ _ = re at R RL ⊢
  generalize afterR _ _ _ = rows at RL haf hsm
  generalize checkE _ _ = ck at R hck haf
  have hB1 : Below w.heap.size w (w.alloc (.cells #[.int .i64 n0, .int .i64 n1, .int .i64 n2, .int .i64 n3, .slice A ps.length c] 37)) := (Below.refl _ _).alloc (Nat.le_refl _) _
  have hck1 := hck _ hB1
  clear hck
  by_cases h0 : ck = 0
  case neg =>
    have HN := Lib.hid (show re = ck by rw [R.out, if_pos h0])
    have HL := Lib.hid (show rl = [] by rw [RL.out, if_neg (by rw [HN.out]; exact h0)])
    have h0' : (ck != 0) = true := by simpa using h0
    clear R RL haf hsm
    go_enter Tryz.func13, Tryz.ntmps13
    go_wp2_with (go_at_call 33; refine hck1.mono ?_; rintro e w1 ⟨rfl, hb1⟩)
    go_ret2
    exact ⟨_, by rw [HN.out]; rfl, by rw [HL.out]; exact Own.nil _ _ _ _, hB1.go hb1⟩
  have h0' : (ck != 0) = false := by simpa using h0
  cases hd : dayB to
  · have HN := Lib.hid (show re = 2 by rw [R.out, if_neg (by simpa using h0), if_pos hd])
    have HL := Lib.hid (show rl = [] by rw [RL.out, if_neg (by rw [HN.out]; decide)])
    clear R RL haf hsm
    go_enter Tryz.func13, Tryz.ntmps13
    go_wp2_with (first | (go_at_call 33; refine hck1.mono ?_; rintro e w1 ⟨rfl, hb1⟩) | (go_at_call 34; refine (day_any _ _).mono ?_; rintro e w' ⟨rfl, rfl⟩; rw [hd]))
    go_ret2
    exact ⟨_, by rw [HN.out]; rfl, by rw [HL.out]; exact Own.nil _ _ _ _, hB1.go hb1⟩
  have HN := Lib.hid (show re = 0 by rw [R.out, if_neg (by simpa using h0), if_neg (by simp [hd])])
  have HL := Lib.hid (show rl = readP rows by rw [RL.out, if_pos HN.out])
  have haf0 := haf h0
  clear R RL haf
  go_enter Tryz.func13, Tryz.ntmps13
  go_wp2_with (first | (go_at_call 33; refine hck1.mono ?_; rintro e w1 ⟨rfl, hb1⟩; obtain ⟨hc1, hf1⟩ := bcell hb1) | (go_at_call 34; refine (day_any _ _).mono ?_; rintro e w' ⟨rfl, rfl⟩; rw [hd]))
  refine (haf0 _ (hB1.go hb1)).mono ?_
  rintro e w2 ⟨eb, rfl, hE, hb2⟩
  have hB2 := (hB1.go hb1).go hb2
  have hsz1 : w.heap.size ≤ w1.heap.size := (hB1.go hb1).size
  obtain ⟨A1, c1, ss, k5, hsl, hRo, hRr⟩ := hE.reads
  have lE := hE.lt.2
  obtain ⟨A1', c1', e1, -, -, hro⟩ := id hRo
  rw [hsl] at e1
  simp only [Value.slice.injEq] at e1
  obtain ⟨rfl, -, rfl⟩ := e1
  clear hck1 haf0 hb1 hb2 hc1 hf1 hE hRo
  have HB := Lib.hid hB2
  have hrl : rows.length ≤ 100 := hsm.1
  have hrn := Lib.hid hsm.2
  clear hB1 hB2 hsm
  go_wp2
  go_loopg [9, 31] rows.length (fun gg s9 s31 wr => ∃ kk : Nat, kk ≤ rows.length ∧ rows.length - kk ≤ gg ∧ s31 = .int .i64 kk ∧ Aside (Own EP 67 wr w2.heap.size s9 (readP (rows.take kk)) ∧ Below w2.heap.size w2 wr ∧ Below w.heap.size w wr))
  case atStart => exact ⟨0, Nat.zero_le _, by omega, rfl, Own.nil _ _ _ _, Below.refl _ _, HB.out⟩
  case round =>
    obtain ⟨kk, hkk, hg, rfl, A2⟩ := hrel
    have hO := A2.out.1
    have hBw := A2.out.2.1
    have hBB := A2.out.2.2
    by_cases hlt : kk < rows.length
    · obtain ⟨b, off, rfl, hb, hr1⟩ := hro (by omega)
      clear hro
      have hs := hr1.below hb hBw kk (by omega) 0 _ rfl
      simp only [show ES.k = 1 from rfl, Nat.mul_one, Nat.add_zero] at hs
      have hOr := hRr kk ss[kk] rows[kk] (List.getElem?_eq_getElem (by omega)) (List.getElem?_eq_getElem hlt)
      generalize ss[kk]'(by omega) = sl at hs hOr
      obtain ⟨A3, n3', c3⟩ := sl
      obtain ⟨A4, c4, e4, hc4, hm4, hr4⟩ := hOr
      dsimp only [Sl.val] at hs e4
      simp only [Value.slice.injEq] at e4
      obtain ⟨rfl, rfl, rfl⟩ := e4
      have hbW : b < wr.heap.size := Nat.lt_of_lt_of_le hb hBw.size
      have htk : Hid (readP (rows.take (kk + 1)) = readP (rows.take kk) ++ keptP rows[kk]) := Lib.hid (by rw [List.take_succ_eq_append_getElem hlt, readP_snoc])
      have hpl : (readP (rows.take kk)).length ≤ 200000 := by
        have h1 := readP_le (n := 2000) (rows.take kk) (fun r hr => hrn.out r (List.mem_of_mem_take hr))
        rw [List.length_take] at h1
        have : min kk rows.length * 2000 ≤ 100 * 2000 := Nat.mul_le_mul_right _ (by omega)
        omega
      have hrw : rows[kk].length ≤ 2000 := hrn.out _ (List.getElem_mem hlt)
      have HBw := Lib.hid hBw; have HBB := Lib.hid hBB
      have hzw := hBB.size
      clear A2 hr1 hRr hBw hBB
      generalize hr0 : rows[kk] = row at hs hr4 hm4 hc4 htk hrw
      generalize readP (rows.take kk) = P0 at hO htk hpl
      clear hr0
      rename World => wo
      go_wp2
      go_loopg [9, 37] row.length (fun gg s9 s37 wq => ∃ jj : Nat, jj ≤ row.length ∧ row.length - jj ≤ gg ∧ s37 = .int .i64 jj ∧ Aside (Own EP 67 wq w2.heap.size s9 (P0 ++ keptP (row.take jj)) ∧ Below w2.heap.size w2 wq ∧ Below w.heap.size w wq))
      case atStart => exact ⟨0, Nat.zero_le _, by omega, rfl, by simpa [keptP] using hO, HBw.out, HBB.out⟩
      case round =>
        obtain ⟨jj, hjj, hg2, rfl, A5⟩ := hrel
        have hO2 := A5.out.1
        have hBw2 := A5.out.2.1
        have hBB2 := A5.out.2.2
        by_cases hlj : jj < row.length
        · obtain ⟨A6, c6, e6, _, _, hr6⟩ := Rd.below (enc := EN.f) (k := EN.k) (xs := row) ⟨A3, c3, rfl, hc4, hm4, hr4⟩ hBw2
          simp only [Value.slice.injEq] at e6
          obtain ⟨rfl, -, rfl⟩ := e6
          obtain ⟨b3, off3, rfl, hb3, hra⟩ := hr6 (by omega)
          have hc' := hra jj hlj
          have hkp : Hid (keptP (row.take (jj + 1)) = if row[jj].gone then keptP (row.take jj) else keptP (row.take jj) ++ [⟨row[jj].anchor, row[jj].text⟩]) := Lib.hid (by
            rw [List.take_succ_eq_append_getElem hlj, keptP_snoc])
          have hkl : (keptP (row.take jj)).length ≤ 2000 := Nat.le_trans (keptP_le _) (by rw [List.length_take]; omega)
          clear A5 hr6 hra hr4
          generalize row[jj] = y at hc' hkp
          obtain ⟨y0, y1, y2⟩ := y
          dsimp only at hkp
          have d0 := hc' 0 _ rfl; have d1 := hc' 1 _ rfl; have d2 := hc' 2 _ rfl
          clear hc'
          simp only [Nat.add_zero, show EN.k = 3 from rfl] at d0 d1 d2
          generalize keptP (row.take jj) = P1 at hO2 hkp hkl
          have hO3 := hO2.alloc (.cells #[.int .i64 y0, .string y1, .bool y2] 95)
          have HA := Lib.hid hBw2; have HAA := Lib.hid hBB2
          have hz5 := hBB2.size
          have hz6 := hBw2.size
          clear hO2 hBw2 hBB2
          cases y2
          · have hbase : w2.heap.size ≤ (wr.alloc (.cells #[.int .i64 y0, .string y1, .bool false] 95)).heap.size := by simp; omega
            go_wp2_with (at_builtin; refine wp_append_one EP w2.heap.size rfl _ _ 31 67 67 _ 24 (EP.f ⟨y0, y1⟩).toArray rfl Tryz.underlying31 Tryz.infoPara rfl (by decide) u9 (P0 ++ P1) ⟨y0, y1⟩ rfl rfl (by rw [World.size_alloc]; rfl) hO3 hbase (by simp only [List.length_append]; omega) ?_; intro v1 w3 hO4 hg4 hb4 hat4)
            go_roundg (row.length - (jj + 1))
            case measure => omega
            case rel =>
              have hin : Below w2.heap.size wr w3 := ((Below.refl _ wr).alloc hz6 _).trans hb4
              refine ⟨jj + 1, by omega, by omega, by go_num, ?_, HA.out.trans hin, HAA.out.trans (hin.mono (by have := HB.out.size; omega))⟩
              rw [hkp.out]; simpa [List.append_assoc] using hO4
          · go_wp2
            go_roundg (row.length - (jj + 1))
            case measure => omega
            case rel =>
              have hin : Below wr.heap.size wr (wr.alloc (.cells #[.int .i64 y0, .string y1, .bool true] 95)) := (Below.refl _ wr).alloc (Nat.le_refl _) _
              refine ⟨jj + 1, by omega, by omega, by go_num, ?_, HA.out.go hin, HAA.out.go hin⟩
              rw [hkp.out]; exact hO3
        · have : jj = row.length := by omega
          subst this
          rw [List.take_length] at hO2
          clear A5
          go_wp2
          go_roundg (rows.length - (kk + 1))
          case measure => omega
          case rel => exact ⟨kk + 1, by omega, by omega, by go_num, by rw [htk.out]; exact hO2, hBw2, hBB2⟩
    · have : kk = rows.length := by omega
      subst this
      rw [List.take_length] at hO
      clear A2 hro hRr
      go_wp2
      go_ret2
      exact ⟨_, by rw [HN.out]; rfl, by rw [HL.out]; exact hO.lower (by have := HB.out.size; omega), hBB⟩
end Go.Proofs.YtjkmdpejcgepkaaGreatDoor
