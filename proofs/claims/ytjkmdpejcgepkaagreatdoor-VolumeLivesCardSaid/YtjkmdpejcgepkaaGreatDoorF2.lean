/- The reference's reading of a volume. -/
import Derived.Test.YtjkmdpejcgepkaaGreatDoorF1
namespace Go.Proofs.YtjkmdpejcgepkaaGreatDoor
open Go.RowKit
structure AE where
  anchor : Int
  text : ByteArray
  part : Int
  gone : Bool
  deriving Inhabited
def EAE : Enc AE := ⟨fun x => [.int .i64 x.anchor, .string x.text, .int .i64 x.part, .bool x.gone], 4, fun _ => rfl, fun x u hu => by simp at hu; rcases hu with rfl | rfl | rfl | rfl <;> rfl, by decide⟩
theorem Tryz.infoREntry : (Tryz.prog.info? 52).map (fun i => (i.zero, i.size, i.bytes)) = some (some (.agg #[.int .i64 0, .string ⟨#[]⟩, .int .i64 0, .bool false]), 4, 40) := by kernel_rfl
def tagL (i : Nat) (l : List Para) : List AE := l.map fun q => ⟨q.anchor, q.text, i, false⟩
def initTo (ps : List Part) (k : Nat) : List AE := (List.range k).flatMap fun i => tagL i (ps.getD i default).paras
theorem initTo_succ (ps : List Part) (k : Nat) (hk : k < ps.length) : initTo ps (k + 1) = initTo ps k ++ tagL k ps[k].paras := by
  unfold initTo
  rw [List.range_succ, List.flatMap_append]
  simp [List.getD_eq_getElem?_getD, hk]
/-- what an erratum makes of an entry -/
def oneA (y : Err) (e : AE) : List AE :=
  if e.anchor == y.anchor then
    (if y.kind == 0 then [if e.gone then e else ⟨e.anchor, y.text, e.part, false⟩] else if y.kind == 1 then [⟨e.anchor, e.text, e.part, true⟩] else if y.kind == 2 then [e, ⟨y.new, y.text, e.part, false⟩] else [e])
  else [e]
def stepA (L : List AE) (y : Err) : List AE := L.flatMap (oneA y)
theorem oneA_pos (y : Err) (e : AE) : 1 ≤ (oneA y e).length := by
  unfold oneA; repeat' split
  all_goals simp
theorem stepA_pos (y : Err) (L : List AE) : L.length ≤ (stepA L y).length := by
  unfold stepA
  induction L with
  | nil => simp
  | cons e L ih => rw [List.flatMap_cons, List.length_append, List.length_cons]; have := oneA_pos y e; omega
theorem foldA_pos (l : List Err) (L : List AE) : L.length ≤ (l.foldl stepA L).length := by
  induction l generalizing L with
  | nil => exact Nat.le_refl _
  | cons y l ih => exact Nat.le_trans (stepA_pos y L) (ih _)
theorem step_one {y : Err} {L1 N0 X : List AE} {mm : Nat} {e : AE} (hlm : mm < L1.length) (h0 : N0 = (L1.take mm).flatMap (oneA y)) (he : L1[mm] = e) (h1 : oneA y e = X) : N0 ++ X = (L1.take (mm + 1)).flatMap (oneA y) := by
  rw [List.take_succ_eq_append_getElem hlm, List.flatMap_append, ← h0, he]
  simp [h1]
/-- what the reference says after a day -/
def AfterIs (x : Vol) (er : List Err) (to : Int) (L : List AE) : Prop := ∃ xs : List Err, (xs.Perm er ∧ xs.Pairwise fun a b => lessB b a = false) ∧ L = (xs.takeWhile fun y => decide (y.day ≤ to)).foldl stepA (initTo x.parts x.parts.length)
theorem initTo_len (ps : List Part) (k : Nat) (hk : k ≤ ps.length) : (initTo ps k).length = ((ps.take k).flatMap (·.paras)).length := by
  induction k with
  | zero => simp [initTo]
  | succ k ih =>
    rw [initTo_succ ps k (by omega), List.length_append, ih (by omega), List.take_succ_eq_append_getElem (by omega), List.flatMap_append, List.length_append]
    simp [tagL]
theorem AfterIs.len {x : Vol} {er : List Err} {to : Int} {L : List AE} (h : AfterIs x er to L) : x.paras.length ≤ L.length := by
  obtain ⟨xs, -, rfl⟩ := h
  refine Nat.le_trans ?_ (foldA_pos _ _)
  rw [initTo_len _ _ (Nat.le_refl _), List.take_length]
  exact Nat.le_refl _
def RAfterPost (w : World) (x : Vol) (er : List Err) (to : Int) (e : Ending) (w' : World) : Prop := ∃ v L, e = .returned v ∧ Own EAE 52 w' w.heap.size v L ∧ x.paras.length ≤ L.length ∧ (L.length ≤ 280 * 2 ^ 25 ∧ AfterIs x er to L) ∧ Below w.heap.size w w'
theorem grow_lb {n : Nat} (h : n ≤ 2 * (280 * 2 ^ 25)) : (n + 1) * 40 ≤ 140737488355328 := by omega
theorem grow_lb2 {n : Nat} (h : n ≤ 2 * (280 * 2 ^ 25)) : (n + 1 + 1) * 40 ≤ 140737488355328 := by omega
theorem grow_pow {a b c : Nat} (h : a ≤ 2 * b) (h2 : b ≤ c) : a ≤ c + c := by omega
theorem take_paras_len (ps : List Part) (k : Nat) : ((ps.take k).flatMap (·.paras)).length ≤ (ps.flatMap (·.paras)).length := by
  conv => rhs; rw [← List.take_append_drop k ps, List.flatMap_append, List.length_append]
  omega
set_option maxHeartbeats 8000000 in
set_option maxRecDepth 100000 in
theorem rafter_any (v ev : Value) (x : Vol) (er : List Err) (to : Int) (w : World) (hv : IsVol w v x) (he : RdE w ev er) (hs : x.small) (hp : x.paras.length ≤ 280) (hl : er.length ≤ 25) :
    Calls Tryz.prog 19 #[v, ev, .int .i64 to] w (RAfterPost w x er to) := by
  obtain ⟨sv, rfl, A, c, rfl, hc, hm, hr⟩ := id hv
  obtain ⟨A0, c0, rfl, -⟩ := id he
  have hps : x.parts.length ≤ 100 := hs.1
  clear hv hs
  obtain ⟨n0, n1, n2, n3, ps⟩ := x
  dsimp only [Vol.val] at hc hm hr hps ⊢
  have hpp : ∀ k, ((ps.take k).flatMap (·.paras)).length ≤ 280 := fun k => Nat.le_trans (take_paras_len ps k) hp
  have HPP := Lib.hid hpp
  clear hpp
  have HRR : Hid (∀ v L w', Own EAE 52 w' w.heap.size v L → AfterIs (Vol.mk n0 n1 n2 n3 ps) er to L → L.length ≤ 280 * 2 ^ 25 → Below w.heap.size w w' → RAfterPost w (Vol.mk n0 n1 n2 n3 ps) er to (.returned v) w') := Lib.hid fun v L w' a b c d => ⟨v, L, rfl, a, b.len, ⟨c, b⟩, d⟩
  have HAI : Hid (∀ L (xs : List Err), (xs.Perm er ∧ xs.Pairwise fun a b => lessB b a = false) → L = (xs.takeWhile fun y => decide (y.day ≤ to)).foldl stepA (initTo ps ps.length) → AfterIs (Vol.mk n0 n1 n2 n3 ps) er to L) := Lib.hid fun L xs a b => ⟨xs, a, b⟩
  have HM : Hid ((Vol.mk n0 n1 n2 n3 ps).paras.length = (ps.flatMap (·.paras)).length) := Lib.hid rfl
  clear hp
  generalize RAfterPost w (Vol.mk n0 n1 n2 n3 ps) er to = PP at HRR ⊢
  generalize AfterIs (Vol.mk n0 n1 n2 n3 ps) er to = AI at HRR HAI
  generalize (Vol.mk n0 n1 n2 n3 ps).paras.length = m at HM
  have hB1 : Below w.heap.size w (w.alloc (.cells #[.int .i64 n0, .int .i64 n1, .int .i64 n2, .int .i64 n3, .slice A ps.length c] 24)) := (Below.refl _ _).alloc (Nat.le_refl _) _
  have hvc : Hid (∀ W, Below (w.heap.size + 1) (w.alloc (.cells #[.int .i64 n0, .int .i64 n1, .int .i64 n2, .int .i64 n3, .slice A ps.length c] 24)) W → w.heap.size < W.heap.size ∧ W.cell? ⟨w.heap.size, 4, none⟩ = some (.slice A ps.length c)) := Lib.hid fun W h3 => by
    have hz := h3.size
    rw [World.size_alloc] at hz
    refine ⟨hz, ?_⟩; rw [h3.cell (p := ⟨w.heap.size, _, none⟩) (Nat.lt_succ_self _)]; simp [go_sem]
  go_enter Tryz.func19, Tryz.ntmps19
  go_wp2
  go_loopg [7, 8, 9] ps.length (fun gg s7 s8 s9 wr => ∃ kk : Nat, kk ≤ ps.length ∧ ps.length - kk ≤ gg ∧ s8 = .int .i64 kk ∧ Aside (∃ L, Own EAE 52 wr (w.heap.size + 1) s7 L ∧ (L.length = ((ps.take kk).flatMap (·.paras)).length ∧ L = initTo ps kk) ∧ Below (w.heap.size + 1) (w.alloc (.cells #[.int .i64 n0, .int .i64 n1, .int .i64 n2, .int .i64 n3, .slice A ps.length c] 24)) wr))
  case atStart => exact ⟨0, Nat.zero_le _, by omega, rfl, [], Own.nil _ _ _ _, ⟨rfl, rfl⟩, Below.refl _ _⟩
  case round =>
    obtain ⟨kk, hkk, hg, rfl, A2⟩ := hrel
    obtain ⟨L0, hO, ⟨hL, hLe⟩, hBw⟩ := A2.out
    have HLE := Lib.hid hLe
    clear A2 hLe
    obtain ⟨z0, z1⟩ := hvc.out wr hBw
    by_cases hlt : kk < ps.length
    · have hBww : Below w.heap.size w wr := hB1.trans (hBw.mono (Nat.le_succ _))
      obtain ⟨b, off, rfl, hb, hr1⟩ := hr (by omega)
      obtain ⟨-, pv, d2w, d3⟩ := hr1 kk hlt
      have d2 : wr.cell? ⟨b, off + kk * 2 + 1, none⟩ = some pv := by rw [hBww.cell (p := ⟨b, _, none⟩) hb]; exact d2w
      clear d2w
      have HBW := Lib.hid hBww
      have hbW : b < wr.heap.size := Nat.lt_of_lt_of_le hb hBww.size
      have hts : Hid (((ps.take (kk + 1)).flatMap (·.paras)).length = ((ps.take kk).flatMap (·.paras)).length + ps[kk].paras.length) := Lib.hid (by rw [List.take_succ_eq_append_getElem hlt, List.flatMap_append, List.length_append]; simp)
      have hix : Hid (initTo ps (kk + 1) = initTo ps kk ++ tagL kk ps[kk].paras) := Lib.hid (initTo_succ ps kk hlt)
      have hb280 := HPP.out (kk + 1)
      rw [hts.out] at hb280
      have HB := Lib.hid hBw
      have HO := Lib.hid hO
      clear hr1 hBww hBw hO
      generalize ps[kk].paras = p1 at d3 hts hb280 hix
      obtain ⟨A2, c2, rfl, hc2, hm2, hr2⟩ := id d3
      have d3' : ∀ W, Below (w.heap.size + 1) wr W → 0 < p1.length → ∃ b off, A2 = some ⟨b, off, none⟩ ∧ RowAt EP.f EP.k W b off p1 := fun W hW h0 => by
        obtain ⟨b2, off2, e, hb2, hrow⟩ := hr2 h0
        exact ⟨b2, off2, e, hrow.below hb2 (HBW.out.trans (hW.mono (Nat.le_succ _)))⟩
      clear d3 hr2
      have d3 := d3'
      clear d3'
      have i1 : (0 : Int) ≤ ↑kk := by omega
      have i2 : (kk : Int) < (ps.length : Int) := by omega
      rename World => wo
      go_wp2
      go_loopg [7, 9] p1.length (fun gg s7 s9 wr => ∃ mm : Nat, mm ≤ p1.length ∧ p1.length - mm ≤ gg ∧ s9 = .int .i64 mm ∧ Aside (∃ L, Own EAE 52 wr (w.heap.size + 1) s7 L ∧ (L.length = ((ps.take kk).flatMap (·.paras)).length + mm ∧ L = initTo ps kk ++ tagL kk (p1.take mm)) ∧ Below (w.heap.size + 1) wo wr))
      case atStart => exact ⟨0, Nat.zero_le _, by omega, rfl, L0, HO.out, ⟨hL, by rw [HLE.out]; simp [tagL]⟩, Below.refl _ _⟩
      case round =>
        obtain ⟨mm, hmm, hg2, rfl, A3⟩ := hrel
        obtain ⟨L1, hO1, ⟨hL1, hLx⟩, hB2⟩ := A3.out
        have HLX := Lib.hid hLx
        clear A3 hLx
        have y1 : wr.cell? ⟨w.heap.size, 4, none⟩ = some (.slice (some ⟨b, off, none⟩) ps.length c) := by rw [hB2.cell (p := ⟨w.heap.size, 4, none⟩) (Nat.lt_succ_self _)]; exact z1
        have y2 : wr.cell? ⟨b, off + kk * 2 + 1, none⟩ = some (.slice A2 p1.length c2) := by rw [hB2.cell (p := ⟨b, off + kk * 2 + 1, none⟩) (Nat.lt_succ_of_lt hb)]; exact d2
        have hbase : w.heap.size + 1 ≤ wr.heap.size := Nat.le_trans z0 hB2.size
        have HB2 := Lib.hid hB2
        have Hd3 := d3 wr
        by_cases hlt2 : mm < p1.length
        · obtain ⟨b2, off2, rfl, hrow2⟩ := Hd3 hB2 (by omega)
          have w1 : wr.cell? ⟨b2, off2 + mm * 2, none⟩ = some (.int .i64 p1[mm].anchor) := hrow2 mm hlt2 0 _ rfl
          have w2 : wr.cell? ⟨b2, off2 + mm * 2 + 1, none⟩ = some (.string p1[mm].text) := hrow2 mm hlt2 1 _ rfl
          have hlb : (L1.length + 1) * 40 ≤ 140737488355328 := by omega
          have HL1 := Lib.hid hL1
          clear hrow2 hB2 d3 Hd3 hL1 hts
          have HTK := Lib.hid (List.take_succ_eq_append_getElem hlt2)
          generalize p1[mm] = y at w1 w2 HTK
          obtain ⟨a0, t0⟩ := y
          dsimp only at w1 w2
          have j1 : (0 : Int) ≤ ↑mm := by omega
          have j2 : (mm : Int) < (p1.length : Int) := by omega
          go_wp2_with (at_builtin; refine wp_append_one EAE (w.heap.size + 1) rfl _ _ 47 52 52 _ 40 (EAE.f ⟨a0, t0, kk, false⟩).toArray rfl Tryz.underlying47 Tryz.infoREntry rfl (by decide) _ L1 ⟨a0, t0, kk, false⟩ rfl rfl rfl hO1 hbase hlb ?_; intro v1 w3 hO3 hg3 hb3 hat3)
          go_roundg (p1.length - (mm + 1))
          case measure => exact measU hg2 hlt2
          case rel => exact ⟨mm + 1, hlt2, Nat.le_refl _, by go_num, _, hO3, ⟨by rw [List.length_append, HL1.out]; rfl, by rw [HLX.out, HTK.out]; simp [tagL]⟩, HB2.out.trans hb3⟩
        · have : mm = p1.length := Nat.le_antisymm hmm (Nat.le_of_not_lt hlt2)
          subst this
          have HL1 := Lib.hid hL1
          have HO1 := Lib.hid hO1
          clear hO1 hL1 hB2 d3 Hd3
          go_wp2
          go_roundg (ps.length - (kk + 1))
          case measure => exact measU hg hlt
          case rel => exact ⟨kk + 1, hlt, Nat.le_refl _, by go_num, L1, HO1.out, ⟨by rw [hts.out]; exact HL1.out, by rw [hix.out, HLX.out, List.take_length]⟩, HB.out.trans HB2.out⟩
    · have : kk = ps.length := Nat.le_antisymm hkk (Nat.le_of_not_lt hlt)
      subst this
      rw [List.take_length] at hL
      have hL280 : L0.length ≤ 280 * 2 ^ 0 := by have := HPP.out ps.length; rw [List.take_length] at this; omega
      have hBww : Below w.heap.size w wr := hB1.trans (hBw.mono (Nat.le_succ _))
      have hso := rsorted_any _ er wr (Rd.below he hBww) (Nat.le_trans hl (by decide))
      have HO := Lib.hid hO
      have HBB := Lib.hid hBww
      clear hr hlt hvc hL HM hO hBw hBww he hB1 HPP hc hm hps
      obtain ⟨n, hen⟩ : ∃ n, er.length = n := ⟨_, rfl⟩
      have HEN := Lib.hid hen
      rw [hen] at hso hl ⊢
      clear hen
      rename World => wo
      go_wp2_with (fail)
      refine hso.mono ?_
      rintro e w2 ⟨v2, xs, rfl, hO2, hso2, hb2⟩
      have HSO2 := Lib.hid hso2
      have hxs : xs.length = n := by rw [hso2.1.length_eq]; exact HEN.out
      clear hso2
      obtain ⟨A3, c3, rfl, -⟩ := id hO2.rd
      rw [hxs] at hO2 ⊢
      have hB2 := Lib.hid (HBB.out.go hb2)
      have hO3 := Lib.hid (HO.out.below hb2)
      have hO4 := Lib.hid (hO2.lower (Nat.le_trans (Nat.le_of_lt z0) (Nat.le_refl _) : w.heap.size ≤ wo.heap.size))
      clear hso hO2 HO HBB z1 hb2
      go_wp2
      go_loopg [7, 11, 12, 13, 14, 15, 16] n (fun gg s7 s11 s12 s13 s14 s15 s16 wr => ∃ kk : Nat, kk ≤ n ∧ n - kk ≤ gg ∧ s11 = .int .i64 kk ∧ Aside (∃ L, Own EAE 52 wr w.heap.size s7 L ∧ (L = (xs.take kk).foldl stepA L0 ∧ ∀ j (hj : j < xs.length), j < kk → xs[j].day ≤ to) ∧ L.length ≤ 280 * 2 ^ kk ∧ Own EE 27 wr w.heap.size (.slice A3 n c3) xs ∧ Below w.heap.size w wr))
      case atStart => exact ⟨0, Nat.zero_le _, by omega, rfl, L0, hO3.out.lower (Nat.le_succ _), ⟨rfl, fun j _ hj => absurd hj (Nat.not_lt_zero _)⟩, hL280, hO4.out, hB2.out⟩
      case round =>
        have HXS := Lib.hid hxs
        clear hO3 hO4 hB2 hL280 hxs z0
        obtain ⟨kk, hkk, hg, rfl, A4⟩ := hrel
        obtain ⟨L1, h1, h2, h3, h4, h6⟩ := A4.out
        have H2 := Lib.hid h2
        have h5 := HXS.out
        clear A4 h2
        by_cases hlt : kk < n
        · obtain ⟨g, rfl, hgb, hgl, -, hcell⟩ := h4.errCells h5 (by omega)
          obtain ⟨q0, q1, q2, q3, q4, q5⟩ := hcell kk (by omega)
          clear hcell
          have hkx : kk < xs.length := by omega
          generalize hy : xs[kk] = y at q0 q1 q2 q3 q4 q5
          obtain ⟨y0, y1, y2, y3, y4, y5⟩ := y
          have HY := Lib.hid hy
          clear hy h5
          dsimp only at q0 q1 q2 q3 q4 q5
          have i1 : (0 : Int) ≤ ↑kk := by omega
          have i2 : (kk : Int) < (n : Int) := by omega
          by_cases hday : y1 ≤ to
          · have hdb : decide (y1 ≤ to) = true := by simpa using hday
            rename World => wo
            obtain ⟨A5, c5, rfl, -⟩ := id h1.rd
            have H1 := Lib.hid h1; have H4 := Lib.hid h4; have H6 := Lib.hid h6
            clear h1 h4 h6
            go_wp2
            obtain ⟨W1, hW1⟩ : ∃ W1, wo.alloc (.cells #[.int .i64 y0, .int .i64 y1, .int .u8 y2, .int .i64 y3, .string y4, .int .i64 y5] 27) = W1 := ⟨_, rfl⟩
            have hBW : Below wo.heap.size wo W1 := by rw [← hW1]; exact (Below.refl _ _).alloc (Nat.le_refl _) _
            have hX : W1.heap[wo.heap.size]? = some (.cells #[.int .i64 y0, .int .i64 y1, .int .u8 y2, .int .i64 y3, .string y4, .int .i64 y5] 27 (0, 0)) := by rw [← hW1]; exact World.alloc_heap_new wo _
            have hXL : wo.heap.size < W1.heap.size := by rw [← hW1]; simp
            rw [hW1]
            clear hW1
            have h280 : L1.length ≤ 280 * 2 ^ 25 := Nat.le_trans h3 (Nat.mul_le_mul_left _ (Nat.pow_le_pow_right (by decide) (by omega)))
            have hpw : 280 * 2 ^ (kk + 1) = 280 * 2 ^ kk + 280 * 2 ^ kk := by rw [Nat.pow_succ]; omega
            have HPW := Lib.hid hpw
            have HBW := Lib.hid hBW
            have H3 := Lib.hid h3
            have hx5 : Hid (∀ W, Below W1.heap.size W1 W → W.cell? ⟨wo.heap.size, 2, none⟩ = some (.int .u8 y2) ∧ W.cell? ⟨wo.heap.size, 3, none⟩ = some (.int .i64 y3) ∧ W.cell? ⟨wo.heap.size, 4, none⟩ = some (.string y4) ∧ W.cell? ⟨wo.heap.size, 5, none⟩ = some (.int .i64 y5)) := Lib.hid fun W h => by
              have h := h.block wo.heap.size hXL
              rw [hX] at h
              exact ⟨by simp [World.cell?, h], by simp [World.cell?, h], by simp [World.cell?, h], by simp [World.cell?, h]⟩
            have HDAY := Lib.hid hday
            clear hX hpw hBW h3 q0 q1 q2 q3 q4 q5 hdb hday
            go_loopg [13, 14, 15, 16] L1.length (fun gg s13 s14 s15 s16 wr => ∃ mm : Nat, mm ≤ L1.length ∧ L1.length - mm ≤ gg ∧ s14 = .int .i64 mm ∧ Aside (∃ N, Own EAE 52 wr W1.heap.size s13 N ∧ N = (L1.take mm).flatMap (oneA ⟨y0, y1, y2, y3, y4, y5⟩) ∧ N.length ≤ 2 * mm ∧ Below W1.heap.size W1 wr))
            case atStart => exact ⟨0, Nat.zero_le _, by omega, rfl, [], Own.nil _ _ _ _, rfl, Nat.zero_le _, Below.refl _ _⟩
            case round =>
              obtain ⟨mm, hmm, hg2, rfl, A6⟩ := hrel
              obtain ⟨N0, hN, n1, n2, hBN⟩ := A6.out
              have HN0 := Lib.hid n1
              clear A6 n1
              by_cases hlm : mm < L1.length
              · obtain ⟨A8, c8, e8, -, -, hrr⟩ := H1.out.rd
                cases e8
                obtain ⟨b, off, rfl, hb, hrow⟩ := hrr (by omega)
                have hbW : b < W1.heap.size := Nat.lt_trans hb hXL
                have g0 : wr.cell? ⟨b, off + mm * 4, none⟩ = some (.int .i64 L1[mm].anchor) := by rw [hBN.cell (p := ⟨b, _, none⟩) hbW, HBW.out.cell (p := ⟨b, _, none⟩) hb]; exact hrow mm hlm 0 _ rfl
                have g1 : wr.cell? ⟨b, off + mm * 4 + 1, none⟩ = some (.string L1[mm].text) := by rw [hBN.cell (p := ⟨b, _, none⟩) hbW, HBW.out.cell (p := ⟨b, _, none⟩) hb]; exact hrow mm hlm 1 _ rfl
                have g2 : wr.cell? ⟨b, off + mm * 4 + 2, none⟩ = some (.int .i64 L1[mm].part) := by rw [hBN.cell (p := ⟨b, _, none⟩) hbW, HBW.out.cell (p := ⟨b, _, none⟩) hb]; exact hrow mm hlm 2 _ rfl
                have g3 : wr.cell? ⟨b, off + mm * 4 + 3, none⟩ = some (.bool L1[mm].gone) := by rw [hBN.cell (p := ⟨b, _, none⟩) hbW, HBW.out.cell (p := ⟨b, _, none⟩) hb]; exact hrow mm hlm 3 _ rfl
                clear hrow hrr
                generalize hel : L1[mm] = el at g0 g1 g2 g3
                obtain ⟨ea, et, ep, eg⟩ := el
                have HEL := Lib.hid hel
                clear hel
                dsimp only at g0 g1 g2 g3
                obtain ⟨x2, x3, x4, x5⟩ := hx5.out wr hBN
                have hsz : W1.heap.size ≤ wr.heap.size := hBN.size
                have hxw : wo.heap.size < wr.heap.size := Nat.lt_of_lt_of_le hXL hsz
                have hbs : ∀ {o : Obj}, W1.heap.size ≤ (wr.alloc o).heap.size := fun {o} => by simp; omega
                have hN280 : N0.length ≤ 2 * (280 * 2 ^ 25) := Nat.le_trans n2 (Nat.mul_le_mul_left 2 (Nat.le_trans hmm h280))
                have hlb : (N0.length + 1) * 40 ≤ 140737488355328 := grow_lb hN280
                have hlb2 : ∀ {z : AE}, ((N0 ++ [z]).length + 1) * 40 ≤ 140737488355328 := fun {z} => by rw [List.length_append]; exact grow_lb2 hN280
                have hmb : mm ≤ 280 * 2 ^ 25 := Nat.le_trans hmm h280
                clear hN280 h280
                have XC : Hid (∀ (o : Obj) w3, Below W1.heap.size (wr.alloc o) w3 → w3.cell? ⟨wo.heap.size, 2, none⟩ = some (.int .u8 y2) ∧ w3.cell? ⟨wo.heap.size, 3, none⟩ = some (.int .i64 y3) ∧ w3.cell? ⟨wo.heap.size, 4, none⟩ = some (.string y4) ∧ w3.cell? ⟨wo.heap.size, 5, none⟩ = some (.int .i64 y5)) := Lib.hid fun o w3 h => hx5.out w3 (hBN.trans (((Below.refl _ _).alloc hsz o).trans h))
                have YP : Hid (∀ (a1 a2 a4 : Value) (o : Obj) w3, ((wr.alloc (.cells #[a1, a2, .int .i64 ep, a4] 52)).alloc o).grownBy w3 u13.ownBlock → w3.cell? ⟨wr.heap.size, 2, none⟩ = some (.int .i64 ep)) := Lib.hid fun a1 a2 a4 o w3 h => by
                  have hne : u13.ownBlock ≠ some wr.heap.size := fun e => Nat.lt_irrefl _ (hN.lt _ e).2
                  rw [cell_far h ⟨wr.heap.size, 2, none⟩ (by simp; omega) (Ne.symm hne)]
                  simp [go_sem]
                have HN := Lib.hid hN
                have HBN := Lib.hid hBN
                have HSZ := Lib.hid hsz
                clear hN hBN
                by_cases e1 : ea = y3
                case neg =>
                  have m1 : (ea == y3) = false := by simpa using e1
                  go_wp2_with (first
                    | (at_builtin; refine wp_append_one EAE W1.heap.size rfl _ _ 47 52 52 _ 40 (EAE.f ⟨ea, et, ep, eg⟩).toArray rfl Tryz.underlying47 Tryz.infoREntry rfl (by decide) _ N0 ⟨ea, et, ep, eg⟩ rfl rfl (by rw [World.size_alloc]; rfl) (HN.out.alloc _) hbs hlb ?_; intro v1 w3 hN3 hg3 hb3 hat3; clear HN; obtain ⟨A7, c7, rfl, -⟩ := id hN3.rd; have hN5 := hN3; simp only [List.length_append, List.length_cons, List.length_nil, Nat.zero_add] at hN5; clear hN3; have hz3 := hb3.size; obtain ⟨f2, f3, f4, f5⟩ := XC.out _ w3 hb3; have fp := YP.out _ _ _ _ w3 hg3))
                  go_roundg (L1.length - (mm + 1))
                  case measure => exact measU hg2 hlm
                  case rel => exact ⟨mm + 1, hlm, Nat.le_refl _, by go_num, _, hN5, step_one hlm HN0.out HEL.out (by unfold oneA; simp [m1]), by simp; omega, HBN.out.trans (((Below.refl _ _).alloc HSZ.out _).trans hb3)⟩
                case pos =>
                  have m1 : (ea == y3) = true := by simpa using e1
                  clear e1
                  by_cases e2 : y2 = 0
                  · have m2 : (y2 == 0) = true := by simpa using e2
                    have m3 : (y2 == 1) = false := by simp [e2]
                    have m4 : (y2 == 2) = false := by simp [e2]
                    clear e2
                    cases eg
                    · 
                      go_wp2_with (first
                        | (at_builtin; refine wp_append_one EAE W1.heap.size rfl _ _ 47 52 52 _ 40 (EAE.f ⟨ea, y4, ep, false⟩).toArray rfl Tryz.underlying47 Tryz.infoREntry rfl (by decide) _ N0 ⟨ea, y4, ep, false⟩ rfl rfl (by rw [World.size_alloc]; rfl) (HN.out.alloc _) hbs hlb ?_; intro v1 w3 hN3 hg3 hb3 hat3; clear HN; obtain ⟨A7, c7, rfl, -⟩ := id hN3.rd; have hN5 := hN3; simp only [List.length_append, List.length_cons, List.length_nil, Nat.zero_add] at hN5; clear hN3; have hz3 := hb3.size; obtain ⟨f2, f3, f4, f5⟩ := XC.out _ w3 hb3; have fp := YP.out _ _ _ _ w3 hg3))
                      go_roundg (L1.length - (mm + 1))
                      case measure => exact measU hg2 hlm
                      case rel => exact ⟨mm + 1, hlm, Nat.le_refl _, by go_num, _, hN5, step_one hlm HN0.out HEL.out (by unfold oneA; simp [m1, m2]), by simp; omega, HBN.out.trans (((Below.refl _ _).alloc HSZ.out _).trans hb3)⟩
                    · 
                      go_wp2_with (first
                        | (at_builtin; refine wp_append_one EAE W1.heap.size rfl _ _ 47 52 52 _ 40 (EAE.f ⟨ea, et, ep, true⟩).toArray rfl Tryz.underlying47 Tryz.infoREntry rfl (by decide) _ N0 ⟨ea, et, ep, true⟩ rfl rfl (by rw [World.size_alloc]; rfl) (HN.out.alloc _) hbs hlb ?_; intro v1 w3 hN3 hg3 hb3 hat3; clear HN; obtain ⟨A7, c7, rfl, -⟩ := id hN3.rd; have hN5 := hN3; simp only [List.length_append, List.length_cons, List.length_nil, Nat.zero_add] at hN5; clear hN3; have hz3 := hb3.size; obtain ⟨f2, f3, f4, f5⟩ := XC.out _ w3 hb3; have fp := YP.out _ _ _ _ w3 hg3))
                      go_roundg (L1.length - (mm + 1))
                      case measure => exact measU hg2 hlm
                      case rel => exact ⟨mm + 1, hlm, Nat.le_refl _, by go_num, _, hN5, step_one hlm HN0.out HEL.out (by unfold oneA; simp [m1, m2]), by simp; omega, HBN.out.trans (((Below.refl _ _).alloc HSZ.out _).trans hb3)⟩
                  · have m2 : (y2 == 0) = false := by simpa using e2
                    clear e2
                    by_cases e3 : y2 = 1
                    · have m3 : (y2 == 1) = true := by simpa using e3
                      have m4 : (y2 == 2) = false := by simp [e3]
                      clear e3
                      go_wp2_with (first
                        | (at_builtin; refine wp_append_one EAE W1.heap.size rfl _ _ 47 52 52 _ 40 (EAE.f ⟨ea, et, ep, true⟩).toArray rfl Tryz.underlying47 Tryz.infoREntry rfl (by decide) _ N0 ⟨ea, et, ep, true⟩ rfl rfl (by rw [World.size_alloc]; rfl) (HN.out.alloc _) hbs hlb ?_; intro v1 w3 hN3 hg3 hb3 hat3; clear HN; obtain ⟨A7, c7, rfl, -⟩ := id hN3.rd; have hN5 := hN3; simp only [List.length_append, List.length_cons, List.length_nil, Nat.zero_add] at hN5; clear hN3; have hz3 := hb3.size; obtain ⟨f2, f3, f4, f5⟩ := XC.out _ w3 hb3; have fp := YP.out _ _ _ _ w3 hg3))
                      go_roundg (L1.length - (mm + 1))
                      case measure => exact measU hg2 hlm
                      case rel => exact ⟨mm + 1, hlm, Nat.le_refl _, by go_num, _, hN5, step_one hlm HN0.out HEL.out (by unfold oneA; simp [m1, m2, m3]), by simp; omega, HBN.out.trans (((Below.refl _ _).alloc HSZ.out _).trans hb3)⟩
                    · have m3 : (y2 == 1) = false := by simpa using e3
                      clear e3
                      by_cases e4 : y2 = 2
                      · have m4 : (y2 == 2) = true := by simpa using e4
                        clear e4
                        go_wp2_with (first
                          | (at_builtin; refine wp_append_one EAE W1.heap.size rfl _ _ 47 52 52 _ 40 (EAE.f ⟨ea, et, ep, eg⟩).toArray rfl Tryz.underlying47 Tryz.infoREntry rfl (by decide) _ N0 ⟨ea, et, ep, eg⟩ rfl rfl (by rw [World.size_alloc]; rfl) (HN.out.alloc _) hbs hlb ?_; intro v1 w3 hN3 hg3 hb3 hat3; clear HN; obtain ⟨A7, c7, rfl, -⟩ := id hN3.rd; have hN5 := hN3; simp only [List.length_append, List.length_cons, List.length_nil, Nat.zero_add] at hN5; clear hN3; have hz3 := hb3.size; obtain ⟨f2, f3, f4, f5⟩ := XC.out _ w3 hb3; have fp := YP.out _ _ _ _ w3 hg3)
                          | (at_builtin; refine wp_append_one EAE W1.heap.size rfl _ _ 47 52 52 _ 40 (EAE.f ⟨y5, y4, ep, false⟩).toArray rfl Tryz.underlying47 Tryz.infoREntry rfl (by decide) (.slice A7 (N0.length + 1) c7) (N0 ++ [⟨ea, et, ep, eg⟩]) ⟨y5, y4, ep, false⟩ rfl (by rfl) (by rfl) hN5 (Nat.le_trans hbs hz3) hlb2 ?_; intro v2 w4 hN4 hg4 hb4 hat4))
                        go_roundg (L1.length - (mm + 1))
                        case measure => exact measU hg2 hlm
                        case rel => exact ⟨mm + 1, hlm, Nat.le_refl _, by go_num, _, hN4, by rw [List.append_assoc]; exact step_one hlm HN0.out HEL.out (by unfold oneA; simp [m1, m2, m3, m4]), by simp; omega, HBN.out.trans (((Below.refl _ _).alloc HSZ.out _).trans (hb3.trans hb4))⟩
                      · have m4 : (y2 == 2) = false := by simpa using e4
                        clear e4
                        go_wp2_with (first
                          | (at_builtin; refine wp_append_one EAE W1.heap.size rfl _ _ 47 52 52 _ 40 (EAE.f ⟨ea, et, ep, eg⟩).toArray rfl Tryz.underlying47 Tryz.infoREntry rfl (by decide) _ N0 ⟨ea, et, ep, eg⟩ rfl rfl (by rw [World.size_alloc]; rfl) (HN.out.alloc _) hbs hlb ?_; intro v1 w3 hN3 hg3 hb3 hat3; clear HN; obtain ⟨A7, c7, rfl, -⟩ := id hN3.rd; have hN5 := hN3; simp only [List.length_append, List.length_cons, List.length_nil, Nat.zero_add] at hN5; clear hN3; have hz3 := hb3.size; obtain ⟨f2, f3, f4, f5⟩ := XC.out _ w3 hb3; have fp := YP.out _ _ _ _ w3 hg3))
                        go_roundg (L1.length - (mm + 1))
                        case measure => exact measU hg2 hlm
                        case rel => exact ⟨mm + 1, hlm, Nat.le_refl _, by go_num, _, hN5, step_one hlm HN0.out HEL.out (by unfold oneA; simp [m1, m2, m3, m4]), by simp; omega, HBN.out.trans (((Below.refl _ _).alloc HSZ.out _).trans hb3)⟩
              · have : mm = L1.length := Nat.le_antisymm hmm (Nat.le_of_not_lt hlm)
                subst this
                clear h280
                have HN := Lib.hid hN
                have HBN := Lib.hid hBN
                clear hN hBN
                go_wp2
                go_roundg (n - (kk + 1))
                case measure => exact measU hg hlt
                case rel =>
                  have hbb := HBW.out.trans (HBN.out.mono (Nat.le_of_lt hXL))
                  have hN0 := HN0.out
                  rw [List.take_length] at hN0
                  refine ⟨kk + 1, hlt, Nat.le_refl _, by go_num, N0, HN.out.lower (Nat.le_trans H6.out.size (Nat.le_of_lt hXL)), ⟨?_, fun j hj hjk => ?_⟩, by rw [HPW.out]; exact grow_pow n2 H3.out, H4.out.below hbb, H6.out.go hbb⟩
                  · rw [List.take_succ_eq_append_getElem hkx, List.foldl_append, ← H2.out.1, HY.out]
                    exact hN0
                  · by_cases e : j = kk
                    · subst e; rw [HY.out]; exact HDAY.out
                    · exact H2.out.2 j hj (by omega)
          · have hdb : decide (y1 ≤ to) = false := by simpa using hday
            have hpw : 280 * 2 ^ kk ≤ 280 * 2 ^ 25 := Nat.mul_le_mul_left _ (Nat.pow_le_pow_right (by decide) (by omega))
            have HF := Lib.hid (HRR.out _ L1 wr h1 (HAI.out L1 xs HSO2.out (by
              rw [takeWhile_stop (fun y : Err => decide (y.day ≤ to)) xs kk hkx (fun j hj hjk => by simpa using H2.out.2 j hj hjk) (by rw [HY.out]; exact hdb), ← HLE.out]; exact H2.out.1)) (Nat.le_trans h3 hpw) h6)
            clear h1 h4 h6
            go_wp2
            exact HF.out
        · have hpw : 280 * 2 ^ kk ≤ 280 * 2 ^ 25 := Nat.mul_le_mul_left _ (Nat.pow_le_pow_right (by decide) (by omega))
          have HF := Lib.hid (HRR.out _ L1 wr h1 (HAI.out L1 xs HSO2.out (by
            have hkn : xs.length ≤ kk := by omega
            have h2 := H2.out
            rw [List.take_of_length_le hkn] at h2
            rw [takeWhile_all (fun y : Err => decide (y.day ≤ to)) xs (fun j hj => by simpa using h2.2 j hj (by omega)), ← HLE.out]; exact h2.1)) (Nat.le_trans h3 hpw) h6)
          have : kk = n := Nat.le_antisymm hkk (Nat.le_of_not_lt hlt)
          subst this
          clear h1 h4 h6
          go_wp2
          exact HF.out
end Go.Proofs.YtjkmdpejcgepkaaGreatDoor
