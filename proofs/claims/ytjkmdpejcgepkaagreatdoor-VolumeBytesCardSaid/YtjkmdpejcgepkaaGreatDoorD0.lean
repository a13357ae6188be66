/- Print: the places. -/
import Derived.Test.YtjkmdpejcgepkaaGreatDoorCF
import Derived.Test.YtjkmdpejcgepkaaGreatDoorCC
namespace Go.Proofs.YtjkmdpejcgepkaaGreatDoor
open Go.RowKit
structure Plc where
  anchor : Int
  column : Int
  line : Int
  lines : Int
  deriving Inhabited
def EPl : Enc Plc := ⟨fun x => [.int .i64 x.anchor, .int .i64 x.column, .int .i64 x.line, .int .i64 x.lines], 4, fun _ => rfl, fun x u hu => by simp at hu; rcases hu with rfl | rfl | rfl | rfl <;> rfl, by decide⟩
def Pr.plc (p : Pr) : Plc := ⟨p.anchor, p.column, p.line, p.lines⟩
theorem Tryz.infoPlace : (Tryz.prog.info? 63).map (fun i => (i.zero, i.size, i.bytes)) = some (some (.agg #[.int .i64 0, .int .i64 0, .int .i64 0, .int .i64 0]), 4, 32) := by kernel_rfl
/-- texts of what is said -/
theorem StepTo.texts {x : Err} {F G : List Entry} (h : StepTo x F G) (p : ByteArray → Prop) (hx : x.kind ≠ 1 → p x.text) (hF : ∀ e ∈ F, p e.text) : ∀ e ∈ G, p e.text := by
  rcases h with ⟨h, rfl⟩ | ⟨A, y, B, rfl, hA, he, rfl⟩
  · exact hF
  · have hy := hF y (by simp)
    intro e hm
    rcases List.mem_append.1 hm with hm | hm
    · exact hF e (by simp [hm])
    · rcases List.mem_cons.1 hm with rfl | hm
      · by_cases k0 : x.kind = 0
        · rw [if_pos k0]
          by_cases hg : y.gone = true
          · rw [if_pos hg]; exact hy
          · rw [if_neg hg]; exact hx (by omega)
        · rw [if_neg k0]
          by_cases k1 : x.kind = 1
          · rw [if_pos k1]; exact hy
          · rw [if_neg k1]; exact hy
      · rcases List.mem_append.1 hm with hm | hm
        · by_cases k : x.kind = 0 ∨ x.kind = 1
          · rw [if_pos k] at hm; simp at hm
          · rw [if_neg k] at hm
            obtain rfl := List.mem_singleton.1 hm
            exact hx (by omega)
        · exact hF e (by simp [hm])
theorem fold_texts (l : List Err) (p : ByteArray → Prop) (rows : List (List Entry)) (hx : ∀ x ∈ l, x.kind ≠ 1 → p x.text) (hF : ∀ e ∈ rows.flatten, p e.text) : ∀ e ∈ (l.foldl stepE rows).flatten, p e.text := by
  induction l generalizing rows with
  | nil => exact hF
  | cons x l ih => exact ih _ (fun y hy => hx y (List.mem_cons_of_mem _ hy)) ((stepTo rows x).texts p (hx x (List.mem_cons_self ..)) hF)
theorem rows0_flat (ps : List Part) : (rows0 ps).flatten = (ps.flatMap (·.paras)).map fun q => ⟨q.anchor, q.text, false⟩ := by
  induction ps with
  | nil => rfl
  | cons p ps ih => simp only [rows0, List.map_cons, List.flatten_cons, List.flatMap_cons, List.map_append] at ih ⊢; rw [ih]; rfl
theorem issued_mem {errata : List Err} {to : Int} {x : Err} (h : x ∈ issuedL errata to) : x ∈ errata :=
  (sortE_spec errata).1.mem_iff.1 ((List.takeWhile_sublist _).mem h)
theorem err_text {x : Err} (h : x.ok = true) (hk : x.kind ≠ 1) : textB x.text = true := by
  unfold Err.ok at h
  rw [Bool.and_eq_true] at h
  have h2 := h.2
  by_cases k0 : x.kind = 0
  · rw [if_pos k0, Bool.and_eq_true] at h2; exact h2.1
  · rw [if_neg k0, if_neg hk] at h2
    by_cases k2 : x.kind = 2
    · rw [if_pos k2, Bool.and_eq_true] at h2; exact h2.1
    · rw [if_neg k2] at h2; simp at h2
theorem after_texts {x : Vol} {errata : List Err} (h : checkE x errata = 0) (to : Int) : ∀ e ∈ (afterR x errata to).flatten, textB e.text = true := by
  obtain ⟨h0, -, h2, -⟩ := checkE_ok h
  refine fold_texts _ (fun t => textB t = true) _ (fun y hy hk => err_text (List.all_eq_true.1 h2 y (issued_mem hy)) hk) ?_
  have hv := checkVol_valid h0
  unfold Vol.valid at hv
  simp only [Bool.and_eq_true] at hv
  rw [rows0_flat]
  intro e he
  obtain ⟨q, hq, rfl⟩ := List.mem_map.1 he
  have := List.all_eq_true.1 hv.2.2 q hq
  unfold Para.ok at this
  rw [Bool.and_eq_true] at this
  exact this.2
theorem textB_size {t : ByteArray} (h : textB t = true) : 1 ≤ t.size ∧ t.size ≤ 200 := by
  unfold textB withinB at h
  rw [Bool.and_eq_true, decide_eq_true_eq] at h
  omega
theorem textsLe_of {rows : List (List Entry)} {m : Nat} (h : ∀ e ∈ rows.flatten, e.text.size ≤ m) : TextsLe m rows := fun r hr e he => h e (List.mem_flatten.2 ⟨r, hr, he⟩)
theorem check_sizes {x : Vol} {errata : List Err} (h : checkE x errata = 0) : 1 ≤ x.height ∧ x.height ≤ 60 ∧ 10 ≤ x.width ∧ x.width ≤ 80 ∧ 1 ≤ x.number ∧ x.number ≤ 99 ∧ 0 ≤ x.bound ∧ x.bound ≤ 99999 := by
  have hv := checkVol_valid (checkE_ok h).1
  unfold Vol.valid withinB dayB withinB at hv
  simp only [Bool.and_eq_true, decide_eq_true_eq] at hv
  omega
def placesL (x : Vol) (errata : List Err) : List Plc := if checkE x errata = 0 then (printV x errata).map Pr.plc else []
def PlacesPost (w : World) (n : Int) (l : List Plc) (e : Ending) (w' : World) : Prop := ∃ v, e = .returned (.tuple #[v, .int .i64 n]) ∧ Own EPl 63 w' w.heap.size v l ∧ Below w.heap.size w w'
theorem printV_le (x : Vol) (errata : List Err) (hs : x.small) (hl : errata.length ≤ 1000) : (printV x errata).length ≤ 200000 := by
  have hsm := afterR_small x errata x.bound hs hl
  have h := printL_le x.height x.width (x.parts.map (·.day)) (afterR x errata x.bound) 2000 hsm.2
  have : (afterR x errata x.bound).length * 2000 ≤ 100 * 2000 := Nat.mul_le_mul_right _ hsm.1
  unfold printV; omega
set_option maxHeartbeats 4000000 in
theorem Print_any (v ev : Value) (x : Vol) (errata : List Err) (w : World) (hv : IsVol w v x) (hs : x.small) (he : RdE w ev errata) (hl : errata.length ≤ 1000) (hf : ∀ y ∈ errata, y.fits) :
    Calls Tryz.prog 17 #[v, ev] w (PlacesPost w (checkE x errata) (placesL x errata)) := by
  obtain ⟨sv, rfl, A, c, rfl, hc, hm, hr⟩ := id hv
  obtain ⟨A0, c0, rfl, -⟩ := id he
  have hck : ∀ W, Below w.heap.size w W → Calls Tryz.prog 33 #[x.val (.slice A x.parts.length c), .slice A0 errata.length c0] W fun e w' => e = .returned (.int .i64 (checkE x errata)) ∧ Below W.heap.size W w' := fun W hW =>
    check_any _ _ x errata W (hv.below hW) hs (Rd.below he hW) (by omega) hf
  have hpr : checkE x errata = 0 → ∀ W, Below w.heap.size w W → Calls Tryz.prog 37 #[x.val (.slice A x.parts.length c), .slice A0 errata.length c0] W (PrintPost W (printV x errata)) := fun h0 W hW => by
    have hz := check_sizes h0
    exact print_any _ _ x errata W (hv.below hW) hs (Rd.below he hW) hl (fun y hy => ok_kind (List.all_eq_true.1 (checkE_ok h0).2.2.1 y hy)) (by omega) (by omega) (by omega) (by omega)
      (textsLe_of fun e hm => by have := textB_size (after_texts h0 x.bound e hm); omega)
  have hpl := printV_le x errata hs hl
  have RL : Hid (placesL x errata = if checkE x errata = 0 then (printV x errata).map Pr.plc else []) := Lib.hid rfl
  clear hv hs hr
  obtain ⟨n0, n1, n2, n3, ps⟩ := x
  dsimp only [Vol.val] at hck hpr RL hc hm hpl ⊢
  generalize placesL _ _ = rl at RL ⊢
  generalize printV _ _ = pl at RL hpr hpl
  generalize checkE _ _ = ck at hck hpr RL
  have hB1 : Below w.heap.size w (w.alloc (.cells #[.int .i64 n0, .int .i64 n1, .int .i64 n2, .int .i64 n3, .slice A ps.length c] 37)) := (Below.refl _ _).alloc (Nat.le_refl _) _
  have hck1 := hck _ hB1
  clear hck
  by_cases h0 : ck = 0
  case neg =>
    have HL := Lib.hid (show rl = [] by rw [RL.out, if_neg h0])
    have h0' : (ck != 0) = true := by simpa using h0
    clear RL hpr
    go_enter Tryz.func17, Tryz.ntmps17
    go_wp2_with (go_at_call 33; refine hck1.mono ?_; rintro e w1 ⟨rfl, hb1⟩)
    go_ret2
    exact ⟨_, rfl, by rw [HL.out]; exact Own.nil _ _ _ _, hB1.go hb1⟩
  have h0' : (ck != 0) = false := by simpa using h0
  have HL := Lib.hid (show rl = pl.map Pr.plc by rw [RL.out, if_pos h0])
  have HC := Lib.hid h0
  have hpr0 := hpr h0
  clear RL hpr h0
  go_enter Tryz.func17, Tryz.ntmps17
  go_wp2_with (first | (go_at_call 33; refine hck1.mono ?_; rintro e w1 ⟨rfl, hb1⟩; obtain ⟨hc1, hf1⟩ := bcell hb1))
  refine (hpr0 _ (hB1.go hb1)).mono ?_
  rintro e w2 ⟨pv, rfl, hO, hb2⟩
  have HB := Lib.hid ((hB1.go hb1).go hb2)
  have hR := hO.rd
  obtain ⟨A1, c1, rfl, hc1', hm1', hro⟩ := id hR
  clear hck1 hpr0 hb1 hb2 hc1 hf1 hB1 hO hR
  go_wp2
  go_loopg [7, 20] pl.length (fun gg s7 s20 wr => ∃ kk : Nat, kk ≤ pl.length ∧ pl.length - kk ≤ gg ∧ s20 = .int .i64 kk ∧ Aside (Own EPl 63 wr w2.heap.size s7 ((pl.take kk).map Pr.plc) ∧ Below w2.heap.size w2 wr))
  case atStart => exact ⟨0, Nat.zero_le _, by omega, rfl, by simpa using Own.nil _ _ _ _, Below.refl _ _⟩
  case round =>
    obtain ⟨kk, hkk, hg, rfl, A2⟩ := hrel
    have hO := A2.out.1
    have hBw := A2.out.2
    by_cases hlt : kk < pl.length
    · obtain ⟨b, off, rfl, hb, hr1⟩ := hro (by omega)
      clear hro
      have hc' := hr1.below hb hBw kk hlt
      have htk : Hid ((pl.take (kk + 1)).map Pr.plc = (pl.take kk).map Pr.plc ++ [pl[kk].plc]) := Lib.hid (by rw [List.take_succ_eq_append_getElem hlt, List.map_append]; rfl)
      have hpk : ((pl.take kk).map Pr.plc).length ≤ 200000 := by rw [List.length_map, List.length_take]; omega
      have hbW : b < wr.heap.size := Nat.lt_of_lt_of_le hb hBw.size
      generalize (pl.take kk).map Pr.plc = P0 at hO htk hpk
      generalize pl[kk] = y at hc' htk
      obtain ⟨y0, y1, y2, y3, y4, y5⟩ := y
      have d0 := hc' 0 _ rfl; have d1 := hc' 1 _ rfl; have d2 := hc' 2 _ rfl; have d3 := hc' 3 _ rfl; have d4 := hc' 4 _ rfl; have d5 := hc' 5 _ rfl
      clear hc'
      simp only [Nat.add_zero, show EPr.k = 6 from rfl] at d0 d1 d2 d3 d4 d5
      have hO3 := hO.alloc (.cells #[.int .i64 y0, .int .i64 y1, .int .i64 y2, .int .i64 y3, .int .i64 y4, .int .i64 y5] 103)
      have HBw := Lib.hid hBw
      have hz := hBw.size
      clear A2 hr1 hO hBw
      have hbase : w2.heap.size ≤ (wr.alloc (.cells #[.int .i64 y0, .int .i64 y1, .int .i64 y2, .int .i64 y3, .int .i64 y4, .int .i64 y5] 103)).heap.size := by simp; omega
      go_wp2_with (at_builtin; refine wp_append_one EPl w2.heap.size rfl _ _ 42 63 63 _ 32 (EPl.f ⟨y0, y1, y2, y3⟩).toArray rfl Tryz.underlying42 Tryz.infoPlace rfl (by decide) u7 P0 ⟨y0, y1, y2, y3⟩ rfl rfl (by rw [World.size_alloc]; rfl) hO3 hbase (by omega) ?_; intro v1 w3 hO4 hg4 hb4 hat4)
      go_roundg (pl.length - (kk + 1))
      case measure => exact measT hg hlt
      case rel =>
        refine ⟨kk + 1, hlt, Nat.le_refl _, by go_num, by rw [htk.out]; exact hO4, HBw.out.trans (((Below.refl _ wr).alloc hz _).trans hb4)⟩
    · have : kk = pl.length := by omega
      subst this
      rw [List.take_length] at hO
      clear A2 hro
      go_wp2
      go_ret2
      exact ⟨_, by rw [HC.out]; rfl, by rw [HL.out]; exact hO.lower (by have := HB.out.size; omega), HB.out.go hBw⟩
end Go.Proofs.YtjkmdpejcgepkaaGreatDoor
