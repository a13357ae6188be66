/- Read, Find. -/
import Derived.Test.YtjkmdpejcgepkaaGreatDoorCB
namespace Go.Proofs.YtjkmdpejcgepkaaGreatDoor
open Go.RowKit
theorem IsEd.reads {w : World} {base eb : Nat} {rows : List (List Entry)} (h : IsEd w base eb rows) : ∃ A c ss, w.cell? ⟨eb, 5, none⟩ = some (.slice A rows.length c) ∧ ss.length = rows.length ∧ Rd ES.f ES.k w (.slice A rows.length c) ss ∧
    (∀ (j : Nat) (s : Sl) (r : List Entry), ss[j]? = some s → rows[j]? = some r → Rd EN.f EN.k w s.val r) := by
  obtain ⟨cs, ov, ss, h0, h1, h2, h3, h4, h5, h6, h7⟩ := h
  have hr := h4.rd
  obtain ⟨A, c, rfl, -⟩ := id hr
  rw [h5] at h3 hr
  exact ⟨A, c, ss, by simp [World.cell?, h1, h3], h5, hr, fun j s r q1 q2 => (h6 j s r q1 q2).rd⟩
def keptP (r : List Entry) : List Para := (r.filter fun e => !e.gone).map fun e => ⟨e.anchor, e.text⟩
def readP (rows : List (List Entry)) : List Para := rows.flatMap keptP
theorem keptP_snoc (r : List Entry) (e : Entry) : keptP (r ++ [e]) = if e.gone then keptP r else keptP r ++ [⟨e.anchor, e.text⟩] := by
  unfold keptP
  cases e with
  | mk a t g => cases g <;> simp [List.filter_append]
theorem readP_snoc (rows : List (List Entry)) (r : List Entry) : readP (rows ++ [r]) = readP rows ++ keptP r := by simp [readP]
theorem keptP_le (r : List Entry) : (keptP r).length ≤ r.length := by
  unfold keptP; rw [List.length_map]; exact List.length_filter_le _ _
theorem readP_le {n : Nat} (rows : List (List Entry)) (h : ∀ r ∈ rows, r.length ≤ n) : (readP rows).length ≤ rows.length * n := by
  induction rows with
  | nil => simp [readP]
  | cons r rs ih =>
    have h1 := h r (List.mem_cons_self ..)
    have h2 := ih fun q hq => h q (List.mem_cons_of_mem _ hq)
    have h3 := keptP_le r
    unfold readP at h2 ⊢
    rw [List.flatMap_cons, List.length_append, List.length_cons, Nat.add_mul, Nat.one_mul]
    omega
theorem checkE_ok {x : Vol} {errata : List Err} (h : checkE x errata = 0) : checkVol x = 0 ∧ errata.length ≤ 20 ∧ errata.all Err.ok = true ∧ fresh (ancs x.paras).reverse [] errata = true ∧ anchored x errata = 0 := by
  unfold checkE at h
  split at h
  · rename_i h0; exact absurd h h0
  · rename_i h0
    split at h
    · simp at h
    · rename_i h1
      split at h
      · simp at h
      · rename_i h2
        split at h
        · simp at h
        · rename_i h3
          exact ⟨by simpa using h0, by omega, by simpa using h2, by simpa using h3, h⟩
theorem ok_kind {x : Err} (h : x.ok = true) : okKind x := by
  unfold Err.ok at h
  rw [Bool.and_eq_true] at h
  have h2 := h.2
  unfold okKind
  split at h2
  · exact .inl ‹_›
  · split at h2
    · exact .inr (.inl ‹_›)
    · split at h2
      · exact .inr (.inr ‹_›)
      · simp at h2
def readE (x : Vol) (errata : List Err) (to : Int) : Int := if checkE x errata ≠ 0 then checkE x errata else if dayB to = false then 2 else 0
def readL (x : Vol) (errata : List Err) (to : Int) : List Para := if readE x errata to = 0 then readP (afterR x errata to) else []
def ReadPost (w : World) (n : Int) (l : List Para) (e : Ending) (w' : World) : Prop := ∃ v, e = .returned (.tuple #[v, .int .i64 n]) ∧ Own EP 67 w' w.heap.size v l ∧ Below w.heap.size w w'
theorem afterR_small (x : Vol) (errata : List Err) (to : Int) (hs : x.small) (hl : errata.length ≤ 1000) : Small 2000 (afterR x errata to) := by
  have h0 := small_fold (small_rows0 (ps := x.parts) ⟨hs.1, fun p hp => (hs.2 p hp).1⟩) (issuedL errata to)
  have h1 : (issuedL errata to).length ≤ errata.length := by
    unfold issuedL
    rw [← (sortE_spec errata).2.1]
    exact (List.takeWhile_sublist _).length_le
  exact ⟨h0.1, fun r hr => Nat.le_trans (h0.2 r hr) (by omega)⟩
set_option maxHeartbeats 4000000 in
theorem Read_any (v ev : Value) (x : Vol) (errata : List Err) (to : Int) (w : World) (hv : IsVol w v x) (hs : x.small) (he : RdE w ev errata) (hl : errata.length ≤ 1000) (hf : ∀ y ∈ errata, y.fits) :
    Calls Tryz.prog 13 #[v, ev, .int .i64 to] w (ReadPost w (readE x errata to) (readL x errata to)) := by
  obtain ⟨sv, rfl, A, c, rfl, hc, hm, hr⟩ := id hv
  obtain ⟨A0, c0, rfl, -⟩ := id he
  have hck : ∀ W, Below w.heap.size w W → Calls Tryz.prog 33 #[x.val (.slice A x.parts.length c), .slice A0 errata.length c0] W fun e w' => e = .returned (.int .i64 (checkE x errata)) ∧ Below W.heap.size W w' := fun W hW =>
    check_any _ _ x errata W (hv.below hW) hs (Rd.below he hW) (by omega) hf
  have haf : checkE x errata = 0 → ∀ W, Below w.heap.size w W → Calls Tryz.prog 35 #[x.val (.slice A x.parts.length c), .slice A0 errata.length c0, .int .i64 to] W (AfterPost W (afterR x errata to)) := fun h0 W hW =>
    after_any _ _ x errata to W (hv.below hW) hs (Rd.below he hW) hl (fun y hy => ok_kind (List.all_eq_true.1 (checkE_ok h0).2.2.1 y hy))
  have hsm := afterR_small x errata to hs hl
  have R : Hid (readE x errata to = if checkE x errata ≠ 0 then checkE x errata else if dayB to = false then 2 else 0) := Lib.hid rfl
  have RL : Hid (readL x errata to = if readE x errata to = 0 then readP (afterR x errata to) else []) := Lib.hid rfl
  clear hv hs hr
  obtain ⟨n0, n1, n2, n3, ps⟩ := x
  dsimp only [Vol.val] at hck haf R RL hc hm ⊢
  generalize readL _ _ _ = rl at RL ⊢
  generalize readE _ _ _ = re at R RL ⊢
  generalize afterR _ _ _ = rows at RL haf hsm
  generalize checkE _ _ = ck at R hck haf
  have hB1 : Below w.heap.size w (w.alloc (.cells #[.int .i64 n0, .int .i64 n1, .int .i64 n2, .int .i64 n3, .slice A ps.length c] 37)) := (Below.refl _ _).alloc (Nat.le_refl _) _
  have hck1 := hck _ hB1
  clear hck
  by_cases h0 : ck = 0
  case neg =>
    have HN := Lib.hid (show re = ck by rw [R.out, if_pos h0])
    have HL := Lib.hid (show rl = [] by rw [RL.out, if_neg (by rw [HN.out]; exact h0)])
    have h0' : (ck != 0) = true := by simpa using h0
    clear R RL haf hsm
    go_enter Tryz.func13, Tryz.ntmps13
    go_wp2_with (go_at_call 33; refine hck1.mono ?_; rintro e w1 ⟨rfl, hb1⟩)
    go_ret2
    exact ⟨_, by rw [HN.out]; rfl, by rw [HL.out]; exact Own.nil _ _ _ _, hB1.go hb1⟩
  have h0' : (ck != 0) = false := by simpa using h0
  cases hd : dayB to
  · have HN := Lib.hid (show re = 2 by rw [R.out, if_neg (by simpa using h0), if_pos hd])
    have HL := Lib.hid (show rl = [] by rw [RL.out, if_neg (by rw [HN.out]; decide)])
    clear R RL haf hsm
    go_enter Tryz.func13, Tryz.ntmps13
    go_wp2_with (first | (go_at_call 33; refine hck1.mono ?_; rintro e w1 ⟨rfl, hb1⟩) | (go_at_call 34; refine (day_any _ _).mono ?_; rintro e w' ⟨rfl, rfl⟩; rw [hd]))
    go_ret2
    exact ⟨_, by rw [HN.out]; rfl, by rw [HL.out]; exact Own.nil _ _ _ _, hB1.go hb1⟩
  have HN := Lib.hid (show re = 0 by rw [R.out, if_neg (by simpa using h0), if_neg (by simp [hd])])
  have HL := Lib.hid (show rl = readP rows by rw [RL.out, if_pos HN.out])
  have haf0 := haf h0
  clear R RL haf
  go_enter Tryz.func13, Tryz.ntmps13
  go_wp2_with (first | (go_at_call 33; refine hck1.mono ?_; rintro e w1 ⟨rfl, hb1⟩; obtain ⟨hc1, hf1⟩ := bcell hb1) | (go_at_call 34; refine (day_any _ _).mono ?_; rintro e w' ⟨rfl, rfl⟩; rw [hd]))
  refine (haf0 _ (hB1.go hb1)).mono ?_
  rintro e w2 ⟨eb, rfl, hE, hb2⟩
  have hB2 := (hB1.go hb1).go hb2
  have hsz1 : w.heap.size ≤ w1.heap.size := (hB1.go hb1).size
  obtain ⟨A1, c1, ss, k5, hsl, hRo, hRr⟩ := hE.reads
  have lE := hE.lt.2
  obtain ⟨A1', c1', e1, -, -, hro⟩ := id hRo
  rw [hsl] at e1
  simp only [Value.slice.injEq] at e1
  obtain ⟨rfl, -, rfl⟩ := e1
  clear hck1 haf0 hb1 hb2 hc1 hf1 hE hRo
  have HB := Lib.hid hB2
  have hrl : rows.length ≤ 100 := hsm.1
  have hrn := Lib.hid hsm.2
  clear hB1 hB2 hsm
  go_wp2
  go_loopg [9, 31] rows.length (fun gg s9 s31 wr => ∃ kk : Nat, kk ≤ rows.length ∧ rows.length - kk ≤ gg ∧ s31 = .int .i64 kk ∧ Aside (Own EP 67 wr w2.heap.size s9 (readP (rows.take kk)) ∧ Below w2.heap.size w2 wr ∧ Below w.heap.size w wr))
  case atStart => exact ⟨0, Nat.zero_le _, by omega, rfl, Own.nil _ _ _ _, Below.refl _ _, HB.out⟩
  case round =>
    obtain ⟨kk, hkk, hg, rfl, A2⟩ := hrel
    have hO := A2.out.1
    have hBw := A2.out.2.1
    have hBB := A2.out.2.2
    by_cases hlt : kk < rows.length
    · obtain ⟨b, off, rfl, hb, hr1⟩ := hro (by omega)
      clear hro
      have hs := hr1.below hb hBw kk (by omega) 0 _ rfl
      simp only [show ES.k = 1 from rfl, Nat.mul_one, Nat.add_zero] at hs
      have hOr := hRr kk ss[kk] rows[kk] (List.getElem?_eq_getElem (by omega)) (List.getElem?_eq_getElem hlt)
      generalize ss[kk]'(by omega) = sl at hs hOr
      obtain ⟨A3, n3', c3⟩ := sl
      obtain ⟨A4, c4, e4, hc4, hm4, hr4⟩ := hOr
      dsimp only [Sl.val] at hs e4
      simp only [Value.slice.injEq] at e4
      obtain ⟨rfl, rfl, rfl⟩ := e4
      have hbW : b < wr.heap.size := Nat.lt_of_lt_of_le hb hBw.size
      have htk : Hid (readP (rows.take (kk + 1)) = readP (rows.take kk) ++ keptP rows[kk]) := Lib.hid (by rw [List.take_succ_eq_append_getElem hlt, readP_snoc])
      have hpl : (readP (rows.take kk)).length ≤ 200000 := by
        have h1 := readP_le (n := 2000) (rows.take kk) (fun r hr => hrn.out r (List.mem_of_mem_take hr))
        rw [List.length_take] at h1
        have : min kk rows.length * 2000 ≤ 100 * 2000 := Nat.mul_le_mul_right _ (by omega)
        omega
      have hrw : rows[kk].length ≤ 2000 := hrn.out _ (List.getElem_mem hlt)
      have HBw := Lib.hid hBw; have HBB := Lib.hid hBB
      have hzw := hBB.size
      clear A2 hr1 hRr hBw hBB
      generalize hr0 : rows[kk] = row at hs hr4 hm4 hc4 htk hrw
      generalize readP (rows.take kk) = P0 at hO htk hpl
      clear hr0
      rename World => wo
      go_wp2
      go_loopg [9, 37] row.length (fun gg s9 s37 wq => ∃ jj : Nat, jj ≤ row.length ∧ row.length - jj ≤ gg ∧ s37 = .int .i64 jj ∧ Aside (Own EP 67 wq w2.heap.size s9 (P0 ++ keptP (row.take jj)) ∧ Below w2.heap.size w2 wq ∧ Below w.heap.size w wq))
      case atStart => exact ⟨0, Nat.zero_le _, by omega, rfl, by simpa [keptP] using hO, HBw.out, HBB.out⟩
      case round =>
        obtain ⟨jj, hjj, hg2, rfl, A5⟩ := hrel
        have hO2 := A5.out.1
        have hBw2 := A5.out.2.1
        have hBB2 := A5.out.2.2
        by_cases hlj : jj < row.length
        · obtain ⟨A6, c6, e6, _, _, hr6⟩ := Rd.below (enc := EN.f) (k := EN.k) (xs := row) ⟨A3, c3, rfl, hc4, hm4, hr4⟩ hBw2
          simp only [Value.slice.injEq] at e6
          obtain ⟨rfl, -, rfl⟩ := e6
          obtain ⟨b3, off3, rfl, hb3, hra⟩ := hr6 (by omega)
          have hc' := hra jj hlj
          have hkp : Hid (keptP (row.take (jj + 1)) = if row[jj].gone then keptP (row.take jj) else keptP (row.take jj) ++ [⟨row[jj].anchor, row[jj].text⟩]) := Lib.hid (by
            rw [List.take_succ_eq_append_getElem hlj, keptP_snoc])
          have hkl : (keptP (row.take jj)).length ≤ 2000 := Nat.le_trans (keptP_le _) (by rw [List.length_take]; omega)
          clear A5 hr6 hra hr4
          generalize row[jj] = y at hc' hkp
          obtain ⟨y0, y1, y2⟩ := y
          dsimp only at hkp
          have d0 := hc' 0 _ rfl; have d1 := hc' 1 _ rfl; have d2 := hc' 2 _ rfl
          clear hc'
          simp only [Nat.add_zero, show EN.k = 3 from rfl] at d0 d1 d2
          generalize keptP (row.take jj) = P1 at hO2 hkp hkl
          have hO3 := hO2.alloc (.cells #[.int .i64 y0, .string y1, .bool y2] 95)
          have HA := Lib.hid hBw2; have HAA := Lib.hid hBB2
          have hz5 := hBB2.size
          have hz6 := hBw2.size
          clear hO2 hBw2 hBB2
          cases y2
          · have hbase : w2.heap.size ≤ (wr.alloc (.cells #[.int .i64 y0, .string y1, .bool false] 95)).heap.size := by simp; omega
            go_wp2_with (at_builtin; refine wp_append_one EP w2.heap.size rfl _ _ 31 67 67 _ 24 (EP.f ⟨y0, y1⟩).toArray rfl Tryz.underlying31 Tryz.infoPara rfl (by decide) u9 (P0 ++ P1) ⟨y0, y1⟩ rfl rfl (by rw [World.size_alloc]; rfl) hO3 hbase (by simp only [List.length_append]; omega) ?_; intro v1 w3 hO4 hg4 hb4 hat4)
            go_roundg (row.length - (jj + 1))
            case measure => omega
            case rel =>
              have hin : Below w2.heap.size wr w3 := ((Below.refl _ wr).alloc hz6 _).trans hb4
              refine ⟨jj + 1, by omega, by omega, by go_num, ?_, HA.out.trans hin, HAA.out.trans (hin.mono (by have := HB.out.size; omega))⟩
              rw [hkp.out]; simpa [List.append_assoc] using hO4
          · go_wp2
            go_roundg (row.length - (jj + 1))
            case measure => omega
            case rel =>
              have hin : Below wr.heap.size wr (wr.alloc (.cells #[.int .i64 y0, .string y1, .bool true] 95)) := (Below.refl _ wr).alloc (Nat.le_refl _) _
              refine ⟨jj + 1, by omega, by omega, by go_num, ?_, HA.out.go hin, HAA.out.go hin⟩
              rw [hkp.out]; exact hO3
        · have : jj = row.length := by omega
          subst this
          rw [List.take_length] at hO2
          clear A5
          go_wp2
          go_roundg (rows.length - (kk + 1))
          case measure => omega
          case rel => exact ⟨kk + 1, by omega, by omega, by go_num, by rw [htk.out]; exact hO2, hBw2, hBB2⟩
    · have : kk = rows.length := by omega
      subst this
      rw [List.take_length] at hO
      clear A2 hro hRr
      go_wp2
      go_ret2
      exact ⟨_, by rw [HN.out]; rfl, by rw [HL.out]; exact hO.lower (by have := HB.out.size; omega), hBB⟩
end Go.Proofs.YtjkmdpejcgepkaaGreatDoor
/- Find. -/
namespace Go.Proofs.YtjkmdpejcgepkaaGreatDoor
open Go.RowKit
def findR (rows : List (List Entry)) (a : Int) : ByteArray × Bool × Int :=
  match locate a rows with
  | none => (⟨#[]⟩, false, 7)
  | some (i, j) => (((rows.getD i []).getD j default).text, ((rows.getD i []).getD j default).gone, 0)
def findE (x : Vol) (errata : List Err) (a to : Int) : ByteArray × Bool × Int :=
  if readE x errata to ≠ 0 then (⟨#[]⟩, false, readE x errata to) else findR (afterR x errata to) a
def findV (p : ByteArray × Bool × Int) : Value := .tuple #[.string p.1, .bool p.2.1, .int .i64 p.2.2]
set_option maxHeartbeats 4000000 in
theorem Find_any (v ev : Value) (x : Vol) (errata : List Err) (a to : Int) (w : World) (hv : IsVol w v x) (hs : x.small) (he : RdE w ev errata) (hl : errata.length ≤ 1000) (hf : ∀ y ∈ errata, y.fits) :
    Calls Tryz.prog 23 #[v, ev, .int .i64 a, .int .i64 to] w fun e w' => e = .returned (findV (findE x errata a to)) ∧ Below w.heap.size w w' := by
  obtain ⟨sv, rfl, A, c, rfl, hc, hm, hr⟩ := id hv
  obtain ⟨A0, c0, rfl, -⟩ := id he
  have hck : ∀ W, Below w.heap.size w W → Calls Tryz.prog 33 #[x.val (.slice A x.parts.length c), .slice A0 errata.length c0] W fun e w' => e = .returned (.int .i64 (checkE x errata)) ∧ Below W.heap.size W w' := fun W hW =>
    check_any _ _ x errata W (hv.below hW) hs (Rd.below he hW) (by omega) hf
  have haf : checkE x errata = 0 → ∀ W, Below w.heap.size w W → Calls Tryz.prog 35 #[x.val (.slice A x.parts.length c), .slice A0 errata.length c0, .int .i64 to] W (AfterPost W (afterR x errata to)) := fun h0 W hW =>
    after_any _ _ x errata to W (hv.below hW) hs (Rd.below he hW) hl (fun y hy => ok_kind (List.all_eq_true.1 (checkE_ok h0).2.2.1 y hy))
  have hsm := afterR_small x errata to hs hl
  have R : Hid (readE x errata to = if checkE x errata ≠ 0 then checkE x errata else if dayB to = false then 2 else 0) := Lib.hid rfl
  have RL : Hid (findV (findE x errata a to) = findV (if readE x errata to ≠ 0 then (⟨#[]⟩, false, readE x errata to) else findR (afterR x errata to) a)) := Lib.hid rfl
  clear hv hs hr
  obtain ⟨n0, n1, n2, n3, ps⟩ := x
  dsimp only [Vol.val] at hck haf R RL hc hm ⊢
  generalize findV (findE _ _ _ _) = rl at RL ⊢
  generalize readE _ _ _ = re at R RL
  generalize afterR _ _ _ = rows at RL haf hsm
  generalize checkE _ _ = ck at R hck haf
  have hB1 : Below w.heap.size w (w.alloc (.cells #[.int .i64 n0, .int .i64 n1, .int .i64 n2, .int .i64 n3, .slice A ps.length c] 37)) := (Below.refl _ _).alloc (Nat.le_refl _) _
  have hck1 := hck _ hB1
  clear hck
  by_cases h0 : ck = 0
  case neg =>
    have HN := Lib.hid (show rl = .tuple #[.string ⟨#[]⟩, .bool false, .int .i64 ck] by rw [RL.out, R.out, if_pos h0, if_pos h0]; rfl)
    have h0' : (ck != 0) = true := by simpa using h0
    clear R RL haf hsm
    go_enter Tryz.func23, Tryz.ntmps23
    go_wp2_with (go_at_call 33; refine hck1.mono ?_; rintro e w1 ⟨rfl, hb1⟩)
    go_ret3
    exact ⟨by rw [HN.out]; rfl, hB1.go hb1⟩
  have h0' : (ck != 0) = false := by simpa using h0
  cases hd : dayB to
  · have HN := Lib.hid (show rl = .tuple #[.string ⟨#[]⟩, .bool false, .int .i64 2] by rw [RL.out, R.out, h0, hd]; rfl)
    clear R RL haf hsm
    go_enter Tryz.func23, Tryz.ntmps23
    go_wp2_with (first | (go_at_call 33; refine hck1.mono ?_; rintro e w1 ⟨rfl, hb1⟩) | (go_at_call 34; refine (day_any _ _).mono ?_; rintro e w' ⟨rfl, rfl⟩; rw [hd]))
    go_ret3
    exact ⟨by rw [HN.out]; rfl, hB1.go hb1⟩
  have HN := Lib.hid (show rl = findV (findR rows a) by rw [RL.out, R.out, h0, hd]; rfl)
  have haf0 := haf h0
  clear R RL haf
  go_enter Tryz.func23, Tryz.ntmps23
  go_wp2_with (first | (go_at_call 33; refine hck1.mono ?_; rintro e w1 ⟨rfl, hb1⟩; obtain ⟨hc1, hf1⟩ := bcell hb1) | (go_at_call 34; refine (day_any _ _).mono ?_; rintro e w' ⟨rfl, rfl⟩; rw [hd]))
  refine (haf0 _ (hB1.go hb1)).mono ?_
  rintro e w2 ⟨eb, rfl, hE, hb2⟩
  have HB := Lib.hid ((hB1.go hb1).go hb2)
  have hfind := edFind_any w2 w1.heap.size eb rows a hE (by have := hsm.1; omega)
  clear hck1 haf0 hb1 hb2 hc1 hf1 hB1
  cases hloc : locate a rows with
  | none =>
    rw [hloc] at hfind
    dsimp only [locV] at hfind
    have HN1 := Lib.hid (show rl = .tuple #[.string ⟨#[]⟩, .bool false, .int .i64 7] by rw [HN.out]; unfold findR; rw [hloc]; rfl)
    go_wp2_with (go_at_call 41; refine hfind.mono ?_; rintro e w3 ⟨rfl, hb3⟩)
    go_ret3
    exact ⟨by rw [HN1.out]; rfl, HB.out.go hb3⟩
  | some ij =>
    obtain ⟨i, j⟩ := ij
    rw [hloc] at hfind
    dsimp only [locV] at hfind
    obtain ⟨r, en, hri, hrj⟩ := locate_spec hloc
    have HN1 := Lib.hid (show rl = .tuple #[.string en.text, .bool en.gone, .int .i64 0] by
      rw [HN.out]; unfold findR; rw [hloc]; simp [findV, List.getD_eq_getElem?_getD, hri, hrj])
    have HE := Lib.hid hE
    clear hE
    go_wp2_with (go_at_call 41; refine hfind.mono ?_; rintro e w3 ⟨rfl, hb3⟩; obtain ⟨ob, oc, gb, gc, V⟩ := (HE.out.below hb3).view hri hrj; have k0 := V.ed; have k1 := V.row; have k2 := V.c0; have k3 := V.c1; have k4 := V.c2; have l0 := V.edlt; have l1 := V.oblt; have l2 := V.gblt; have l3 := V.ilt; have l4 := V.jlt; have hs0 := V.own.rd; clear V)
    go_quiet (skip)
    go_wp2
    go_ret3
    exact ⟨by rw [HN1.out]; rfl, ((HB.out.go hb3).alloc (by have := HB.out.size; have := hb3.size; omega) _).drewN _⟩
end Go.Proofs.YtjkmdpejcgepkaaGreatDoor
/- print: the places of a volume. -/
namespace Go.Proofs.YtjkmdpejcgepkaaGreatDoor
open Go.RowKit
structure Pr where
  anchor : Int
  column : Int
  line : Int
  lines : Int
  day : Int
  number : Int
  deriving Inhabited
def EPr : Enc Pr := ⟨fun x => [.int .i64 x.anchor, .int .i64 x.column, .int .i64 x.line, .int .i64 x.lines, .int .i64 x.day, .int .i64 x.number], 6, fun _ => rfl, fun x u hu => by simp at hu; rcases hu with rfl | rfl | rfl | rfl | rfl | rfl <;> rfl, by decide⟩
/-- lines of a text -/
def linesOf (wd : Int) (t : ByteArray) : Int := ((t.size : Int) + wd - 1) / wd
/-- lines and number behind some entries of a row -/
def rowEnd (wd : Int) : Int × Int → List Entry → Int × Int := fun s r => r.foldl (fun s e => if e.gone then s else (s.1 + linesOf wd e.text, s.2 + 1)) s
def prOf (ht wd col day : Int) (s : Int × Int) (e : Entry) : Pr := ⟨e.anchor, col + s.1 / ht, s.1 % ht + 1, linesOf wd e.text, day, s.2 + 1⟩
def rowPr (ht wd col day : Int) : Int × Int → List Entry → List Pr
  | _, [] => []
  | s, e :: r => if e.gone then rowPr ht wd col day s r else prOf ht wd col day s e :: rowPr ht wd col day (s.1 + linesOf wd e.text, s.2 + 1) r
theorem rowPr_snoc (ht wd col day : Int) (s : Int × Int) (r : List Entry) (e : Entry) :
    rowPr ht wd col day s (r ++ [e]) = rowPr ht wd col day s r ++ (if e.gone then [] else [prOf ht wd col day (rowEnd wd s r) e]) := by
  induction r generalizing s with
  | nil => cases h : e.gone <;> simp [rowPr, rowEnd, h]
  | cons y r ih =>
    cases h : y.gone
    · simp only [List.cons_append, rowPr, h, Bool.false_eq_true, if_false, ih]
      simp [rowEnd, h]
    · simp only [List.cons_append, rowPr, h, if_true, ih]
      simp [rowEnd, h]
theorem rowEnd_snoc (wd : Int) (s : Int × Int) (r : List Entry) (e : Entry) : rowEnd wd s (r ++ [e]) = if e.gone then rowEnd wd s r else ((rowEnd wd s r).1 + linesOf wd e.text, (rowEnd wd s r).2 + 1) := by
  simp [rowEnd, List.foldl_append]
/-- columns behind some rows -/
def colEnd (ht wd : Int) (rows : List (List Entry)) : Int := rows.foldl (fun c r => c + ((rowEnd wd (0, 0) r).1 + ht - 1) / ht) 1
theorem colEnd_snoc (ht wd : Int) (rows : List (List Entry)) (r : List Entry) : colEnd ht wd (rows ++ [r]) = colEnd ht wd rows + ((rowEnd wd (0, 0) r).1 + ht - 1) / ht := by simp [colEnd]
def printL (ht wd : Int) (days : List Int) (rows : List (List Entry)) : List Pr :=
  (List.range rows.length).flatMap fun i => rowPr ht wd (colEnd ht wd (rows.take i)) (days.getD i 0) (0, 0) (rows.getD i [])
def printV (x : Vol) (errata : List Err) : List Pr := printL x.height x.width (x.parts.map (·.day)) (afterR x errata x.bound)
theorem Tryz.infoPrinted : (Tryz.prog.info? 103).map (fun i => (i.zero, i.size, i.bytes)) = some (some (.agg #[.int .i64 0, .int .i64 0, .int .i64 0, .int .i64 0, .int .i64 0, .int .i64 0]), 6, 48) := by kernel_rfl
theorem stepE_length (rows : List (List Entry)) (x : Err) : (stepE rows x).length = rows.length := by
  unfold stepE
  split
  · rfl
  · split
    · split <;> simp
    · split <;> simp
theorem fold_length (rows : List (List Entry)) (l : List Err) : (l.foldl stepE rows).length = rows.length := by
  induction l generalizing rows with
  | nil => rfl
  | cons x l ih => rw [List.foldl_cons, ih, stepE_length]
theorem afterR_length (x : Vol) (errata : List Err) (to : Int) : (afterR x errata to).length = x.parts.length := by
  unfold afterR; rw [fold_length]; simp [rows0]
def TextsLe (m : Nat) (rows : List (List Entry)) : Prop := ∀ r ∈ rows, ∀ e ∈ r, e.text.size ≤ m
theorem linesOf_le {wd : Int} {t : ByteArray} {m : Nat} (h1 : 1 ≤ wd) (h : t.size ≤ m) (hw : wd ≤ 1000) : 0 ≤ linesOf wd t ∧ linesOf wd t ≤ (m : Int) + 1000 := by
  unfold linesOf
  have h0 : (0 : Int) ≤ (t.size : Int) + wd - 1 := by omega
  refine ⟨Int.ediv_nonneg h0 (by omega), ?_⟩
  have := Int.ediv_le_self wd h0
  omega
theorem rowEnd_le {wd : Int} {m : Nat} (h1 : 1 ≤ wd) (hw : wd ≤ 1000) (r : List Entry) (h : ∀ e ∈ r, e.text.size ≤ m) (s : Int × Int) (h0 : 0 ≤ s.1 ∧ 0 ≤ s.2) :
    0 ≤ (rowEnd wd s r).1 ∧ (rowEnd wd s r).1 ≤ s.1 + (r.length : Int) * ((m : Int) + 1000) ∧ 0 ≤ (rowEnd wd s r).2 ∧ (rowEnd wd s r).2 ≤ s.2 + r.length := by
  induction r generalizing s with
  | nil => simp [rowEnd]; exact h0
  | cons e r ih =>
    have hl := linesOf_le h1 (h e (List.mem_cons_self ..)) hw
    have hr := fun q hq => h q (List.mem_cons_of_mem _ hq)
    have hm : (0 : Int) ≤ (m : Int) + 1000 := by omega
    have e1 : ((e :: r).length : Int) * ((m : Int) + 1000) = (r.length : Int) * ((m : Int) + 1000) + ((m : Int) + 1000) := by
      rw [List.length_cons]; push_cast; rw [Int.add_mul, Int.one_mul]
    cases hg : e.gone
    · have := ih hr (s.1 + linesOf wd e.text, s.2 + 1) ⟨by simp only; omega, by simp only; omega⟩
      have e2 : rowEnd wd s (e :: r) = rowEnd wd (s.1 + linesOf wd e.text, s.2 + 1) r := by simp [rowEnd, hg]
      rw [e2, e1, List.length_cons]
      simp only at this
      push_cast
      omega
    · have := ih hr s h0
      have e2 : rowEnd wd s (e :: r) = rowEnd wd s r := by simp [rowEnd, hg]
      rw [e2, e1, List.length_cons]
      push_cast
      omega
theorem colEnd_le {ht wd : Int} {m n : Nat} (h1 : 1 ≤ wd) (hw : wd ≤ 1000) (h2 : 1 ≤ ht) (h3 : ht ≤ 1000) (rows : List (List Entry)) (h : TextsLe m rows) (hn : ∀ r ∈ rows, r.length ≤ n) :
    1 ≤ colEnd ht wd rows ∧ colEnd ht wd rows ≤ 1 + (rows.length : Int) * ((n : Int) * ((m : Int) + 1000) + 1000) := by
  suffices H : ∀ (c : Int), 1 ≤ c → 1 ≤ rows.foldl (fun c r => c + ((rowEnd wd (0, 0) r).1 + ht - 1) / ht) c ∧ rows.foldl (fun c r => c + ((rowEnd wd (0, 0) r).1 + ht - 1) / ht) c ≤ c + (rows.length : Int) * ((n : Int) * ((m : Int) + 1000) + 1000) from H 1 (by omega)
  induction rows with
  | nil => intro c hc; simp; exact hc
  | cons r rs ih =>
    intro c hc
    have hb := rowEnd_le h1 hw r (h r (List.mem_cons_self ..)) (0, 0) ⟨by simp, by simp⟩
    have hrn := hn r (List.mem_cons_self ..)
    have hmul : (r.length : Int) * ((m : Int) + 1000) ≤ (n : Int) * ((m : Int) + 1000) := Int.mul_le_mul_of_nonneg_right (by omega) (by omega)
    simp only at hb
    have hq0 : (0 : Int) ≤ (rowEnd wd (0, 0) r).1 + ht - 1 := by omega
    have hq1 : 0 ≤ ((rowEnd wd (0, 0) r).1 + ht - 1) / ht := Int.ediv_nonneg hq0 (by omega)
    have hq2 := Int.ediv_le_self ht hq0
    rw [List.foldl_cons]
    have := ih (fun q hq => h q (List.mem_cons_of_mem _ hq)) (fun q hq => hn q (List.mem_cons_of_mem _ hq)) (c + ((rowEnd wd (0, 0) r).1 + ht - 1) / ht) (by omega)
    have e1 : ((r :: rs).length : Int) * ((n : Int) * ((m : Int) + 1000) + 1000) = (rs.length : Int) * ((n : Int) * ((m : Int) + 1000) + 1000) + ((n : Int) * ((m : Int) + 1000) + 1000) := by
      rw [List.length_cons]; push_cast; rw [Int.add_mul, Int.one_mul]
    rw [e1]
    omega
end Go.Proofs.YtjkmdpejcgepkaaGreatDoor
/- Plain laws of editions: what is found, kept, removed. -/
namespace Go.Proofs.YtjkmdpejcgepkaaGreatDoor
open Go.RowKit
/-- the entry with an anchor -/
def look (rows : List (List Entry)) (a : Int) : Option Entry := rows.flatten.find? (fun e => e.anchor == a)
theorem locate_split {a : Int} {rows : List (List Entry)} {i j : Nat} (h : locate a rows = some (i, j)) :
    ∃ A e B, rows.flatten = A ++ e :: B ∧ (∀ y ∈ A, y.anchor ≠ a) ∧ e.anchor = a ∧ e = (rows.getD i []).getD j default ∧
      (∀ e', (rows.set i ((rows.getD i []).set j e')).flatten = A ++ e' :: B) ∧ (∀ n, (rows.set i (insAt (rows.getD i []) (j + 1) n)).flatten = A ++ e :: n :: B) := by
  induction rows generalizing i with
  | nil => simp [locate] at h
  | cons r rs ih =>
    rw [locate] at h
    split at h
    · rename_i k hk
      simp only [Option.some.injEq, Prod.mk.injEq] at h
      obtain ⟨rfl, rfl⟩ := h
      obtain ⟨hlt, hp, hn⟩ := List.findIdx?_eq_some_iff_getElem.1 hk
      refine ⟨r.take k, r[k], r.drop (k + 1) ++ rs.flatten, ?_, ?_, by simpa using hp, by simp [List.getD_eq_getElem?_getD, hlt], ?_, ?_⟩
      · rw [List.flatten_cons, ← List.cons_append, ← List.append_assoc, ← List.drop_eq_getElem_cons hlt, List.take_append_drop]
      · intro y hy
        obtain ⟨m, hm, rfl⟩ := List.mem_iff_getElem.1 hy
        have hm2 : m < k := by rw [List.length_take] at hm; omega
        rw [List.getElem_take]
        simpa using hn m hm2
      · intro e'
        simp only [List.getD_eq_getElem?_getD, List.getElem?_cons_zero, Option.getD_some, List.set_cons_zero, List.flatten_cons]
        rw [List.set_eq_take_append_cons_drop, if_pos hlt]
        simp
      · intro n
        simp only [List.getD_eq_getElem?_getD, List.getElem?_cons_zero, Option.getD_some, List.set_cons_zero, List.flatten_cons, insAt]
        rw [List.take_succ_eq_append_getElem hlt]
        simp only [List.append_assoc, List.cons_append, List.nil_append]
    · rename_i hk
      obtain ⟨p, hp, he⟩ := Option.map_eq_some_iff.1 h
      obtain ⟨p1, p2⟩ := p
      simp only [Prod.mk.injEq] at he
      obtain ⟨rfl, rfl⟩ := he
      obtain ⟨A, e, B, h1, h2, h3, h4, h5, h6⟩ := ih hp
      refine ⟨r ++ A, e, B, by simp [h1], ?_, h3, by simpa using h4, ?_, ?_⟩
      · intro y hy
        rcases List.mem_append.1 hy with hy | hy
        · rw [List.findIdx?_eq_none_iff] at hk
          simpa using hk y hy
        · exact h2 y hy
      · intro e'; simpa using h5 e'
      · intro n; simpa using h6 n
theorem locate_none {a : Int} {rows : List (List Entry)} (h : locate a rows = none) : ∀ y ∈ rows.flatten, y.anchor ≠ a := by
  induction rows with
  | nil => simp
  | cons r rs ih =>
    rw [locate] at h
    split at h
    · simp at h
    · rename_i hk
      simp only [Option.map_eq_none_iff] at h
      intro y hy
      rw [List.flatten_cons] at hy
      rcases List.mem_append.1 hy with hy | hy
      · rw [List.findIdx?_eq_none_iff] at hk
        simpa using hk y hy
      · exact ih h y hy
theorem find_split {a : Int} {A B : List Entry} {e : Entry} (h2 : ∀ y ∈ A, y.anchor ≠ a) (h3 : e.anchor = a) : (A ++ e :: B).find? (fun e => e.anchor == a) = some e := by
  rw [List.find?_append, List.find?_eq_none.2 (fun y hy => by simpa using h2 y hy)]
  simp [h3]
theorem look_locate (rows : List (List Entry)) (a : Int) : look rows a = (locate a rows).map fun p => (rows.getD p.1 []).getD p.2 default := by
  unfold look
  cases h : locate a rows with
  | none => rw [List.find?_eq_none.2 (fun y hy => by simpa using locate_none h y hy)]; rfl
  | some p =>
    obtain ⟨i, j⟩ := p
    obtain ⟨A, e, B, h1, h2, h3, h4, -⟩ := locate_split h
    rw [h1, find_split h2 h3, h4]; rfl
def ents (rows : List (List Entry)) : List Int := rows.flatten.map (·.anchor)
/-- what a step does to the list of all entries -/
inductive StepTo (x : Err) (F G : List Entry) : Prop
  | miss (h : ∀ y ∈ F, y.anchor ≠ x.anchor) (e : G = F)
  | hit (A : List Entry) (e : Entry) (B : List Entry) (h : F = A ++ e :: B) (hA : ∀ y ∈ A, y.anchor ≠ x.anchor) (he : e.anchor = x.anchor)
      (g : G = A ++ (if x.kind = 0 then (if e.gone then e else { e with text := x.text }) else if x.kind = 1 then { e with gone := true } else e) :: ((if x.kind = 0 ∨ x.kind = 1 then [] else [⟨x.new, x.text, false⟩]) ++ B))
theorem stepTo (rows : List (List Entry)) (x : Err) : StepTo x rows.flatten (stepE rows x).flatten := by
  unfold stepE
  split
  · rename_i h; exact .miss (locate_none h) rfl
  · rename_i i j h
    obtain ⟨A, e, B, h1, h2, h3, h4, h5, h6⟩ := locate_split h
    refine .hit A e B h1 h2 h3 ?_
    rw [← h4]
    by_cases k0 : x.kind = 0
    · simp only [k0, if_true, true_or, List.nil_append]
      by_cases hg : e.gone = true
      · simp only [hg, if_true]; exact h1
      · simp only [hg, if_false, Bool.false_eq_true]; exact h5 _
    · by_cases k1 : x.kind = 1
      · simp only [k1, if_true, or_true, List.nil_append, show ¬ (1 : Int) = 0 by decide, if_false]; exact h5 _
      · simp only [k0, k1, if_false, or_self]; exact h6 _
/-- anchors that later additions bring -/
def news (l : List Err) : List Int := (l.filter fun x => !(x.kind == 0 || x.kind == 1)).map (·.new)
/-- anchors are all different, and what comes is fresh -/
def Fr (F : List Entry) (l : List Err) : Prop := (F.map (·.anchor)).Nodup ∧ (news l).Nodup ∧ ∀ a ∈ news l, a ∉ F.map (·.anchor)
theorem news_cons (x : Err) (l : List Err) : news (x :: l) = (if x.kind = 0 ∨ x.kind = 1 then [] else [x.new]) ++ news l := by
  unfold news
  by_cases h : x.kind = 0 ∨ x.kind = 1
  · rw [if_pos h, List.filter_cons_of_neg (by simp; omega)]; rfl
  · rw [if_neg h, List.filter_cons_of_pos (by simp; omega)]; rfl
theorem StepTo.map {x : Err} {F G : List Entry} (h : StepTo x F G) : (G.map (·.anchor)) = F.map (·.anchor) ∨ ∃ A B, F.map (·.anchor) = A ++ B ∧ G.map (·.anchor) = A ++ x.new :: B ∧ ¬(x.kind = 0 ∨ x.kind = 1) := by
  rcases h with ⟨h, rfl⟩ | ⟨A, e, B, rfl, hA, he, rfl⟩
  · exact .inl rfl
  · by_cases k0 : x.kind = 0
    · left; simp only [k0, if_true, true_or, List.nil_append]; by_cases hg : e.gone = true <;> simp [hg]
    · by_cases k1 : x.kind = 1
      · left; rw [if_neg k0, if_pos k1, if_pos (.inr k1)]; simp
      · right
        rw [if_neg k0, if_neg k1, if_neg (by omega)]
        exact ⟨A.map (·.anchor) ++ [e.anchor], B.map (·.anchor), by simp, by simp, by omega⟩
theorem StepTo.fr {x : Err} {F G : List Entry} {l : List Err} (h : StepTo x F G) (hf : Fr F (x :: l)) : Fr G l := by
  obtain ⟨h1, h2, h3⟩ := hf
  rw [news_cons] at h2 h3
  have h2' := (List.nodup_append.1 h2)
  rcases h.map with he | ⟨A, B, hF, hG, hk⟩
  · exact ⟨by rw [he]; exact h1, h2'.2.1, fun a ha => by rw [he]; exact h3 a (List.mem_append_right _ ha)⟩
  · rw [if_neg hk] at h2 h2' h3
    have hn : x.new ∉ A ++ B := by rw [← hF]; exact h3 _ (by simp)
    rw [Fr, hG]
    rw [hF] at h1 h3
    refine ⟨?_, h2'.2.1, ?_⟩
    · rw [(List.perm_middle (l₁ := A) (l₂ := B) (a := x.new)).nodup_iff, List.nodup_cons]
      exact ⟨hn, h1⟩
    · intro a ha hm
      rw [(List.perm_middle (l₁ := A) (l₂ := B) (a := x.new)).mem_iff, List.mem_cons] at hm
      rcases hm with rfl | hm
      · exact h2'.2.2 _ (List.mem_singleton_self _) _ ha rfl
      · exact h3 a (List.mem_append_right _ ha) hm
theorem fold_fr (l m : List Err) (rows : List (List Entry)) (h : Fr rows.flatten (l ++ m)) : Fr (l.foldl stepE rows).flatten m := by
  induction l generalizing rows with
  | nil => exact h
  | cons x l ih => exact ih (stepE rows x) ((stepTo rows x).fr h)
def findF (F : List Entry) (a : Int) : Option Entry := F.find? (fun e => e.anchor == a)
/-- what stands stays: an entry found is found later; what is gone stays as it is -/
theorem StepTo.keep {x : Err} {F G : List Entry} {l : List Err} (h : StepTo x F G) (hf : Fr F (x :: l)) (a : Int) (e : Entry) (ha : findF F a = some e) : ∃ e', findF G a = some e' ∧ (e.gone = true → e' = e) := by
  rcases h with ⟨h, rfl⟩ | ⟨A, y, B, rfl, hA, he, rfl⟩
  · exact ⟨e, ha, fun _ => rfl⟩
  · unfold findF at ha ⊢
    rw [List.find?_append] at ha ⊢
    cases hq : A.find? (fun e => e.anchor == a) with
    | some z =>
      rw [hq] at ha
      simp only [Option.some_or, Option.some.injEq] at ha ⊢
      exact ⟨z, rfl, fun _ => ha⟩
    | none =>
      rw [hq] at ha
      simp only [Option.none_or] at ha ⊢
      have han : ∀ (t : ByteArray) (g : Bool), ({ y with text := t } : Entry).anchor = y.anchor ∧ ({ y with gone := g } : Entry).anchor = y.anchor := fun _ _ => ⟨rfl, rfl⟩
      by_cases hya : y.anchor = a
      · rw [List.find?_cons_of_pos (by simpa using hya)] at ha
        injection ha with ha
        subst ha
        refine ⟨_, List.find?_cons_of_pos ?_, ?_⟩
        · by_cases k0 : x.kind = 0
          · rw [if_pos k0]; by_cases hg : y.gone <;> simp [hg, hya]
          · rw [if_neg k0]; by_cases k1 : x.kind = 1 <;> simp [k1, hya]
        · intro hg
          by_cases k0 : x.kind = 0
          · rw [if_pos k0, if_pos hg]
          · rw [if_neg k0]
            by_cases k1 : x.kind = 1
            · rw [if_pos k1]; cases y; simp_all
            · rw [if_neg k1]
      · rw [List.find?_cons_of_neg (by simpa using hya)] at ha
        refine ⟨e, ?_, fun _ => rfl⟩
        rw [List.find?_cons_of_neg]
        · by_cases k : x.kind = 0 ∨ x.kind = 1
          · rw [if_pos k]; exact ha
          · rw [if_neg k, List.singleton_append, List.find?_cons_of_neg]
            · exact ha
            · have hm : a ∈ (A ++ y :: B).map (·.anchor) := by
                obtain ⟨_, hmem, hp⟩ := (⟨e, List.mem_of_find?_eq_some ha, by simpa using List.find?_some ha⟩ : ∃ e, e ∈ B ∧ e.anchor = a)
                simp only [List.map_append, List.map_cons, List.mem_append, List.mem_cons, List.mem_map]
                exact .inr (.inr ⟨_, hmem, hp⟩)
              have := hf.2.2 x.new (by rw [news_cons, if_neg k]; simp)
              simp only [beq_iff_eq]
              rintro rfl
              exact this hm
        · by_cases k0 : x.kind = 0
          · rw [if_pos k0]; by_cases hg : y.gone <;> simp [hg, hya]
          · rw [if_neg k0]; by_cases k1 : x.kind = 1 <;> simp [k1, hya]
theorem fold_keep (l m : List Err) (rows : List (List Entry)) (hf : Fr rows.flatten (l ++ m)) (a : Int) (e : Entry) (ha : look rows a = some e) :
    ∃ e', look (l.foldl stepE rows) a = some e' ∧ (e.gone = true → e' = e) := by
  induction l generalizing rows e with
  | nil => exact ⟨e, ha, fun _ => rfl⟩
  | cons x l ih =>
    obtain ⟨e1, h1, h2⟩ := (stepTo rows x).keep (l := l ++ m) hf a e ha
    obtain ⟨e2, h3, h4⟩ := ih (stepE rows x) ((stepTo rows x).fr hf) e1 h1
    exact ⟨e2, h3, fun hg => by rw [h4 (by rw [h2 hg]; exact hg), h2 hg]⟩
theorem find_of_mem {F : List Entry} (h : (F.map (·.anchor)).Nodup) {e : Entry} (he : e ∈ F) : findF F e.anchor = some e := by
  unfold findF
  induction F with
  | nil => simp at he
  | cons y F ih =>
    rw [List.map_cons, List.nodup_cons] at h
    rcases List.mem_cons.1 he with rfl | he
    · exact List.find?_cons_of_pos (by simp)
    · rw [List.find?_cons_of_neg]
      · exact ih h.2 he
      · simp only [beq_iff_eq]
        intro hq
        exact h.1 (by rw [hq]; exact List.mem_map_of_mem he)
theorem mem_of_find {F : List Entry} {a : Int} {e : Entry} (h : findF F a = some e) : e ∈ F ∧ e.anchor = a := ⟨List.mem_of_find?_eq_some h, by simpa using List.find?_some h⟩
end Go.Proofs.YtjkmdpejcgepkaaGreatDoor
