/- Volumes as they are read; all paragraphs of a volume. -/
import Derived.Test.YtjkmdpejcgepkaaGreatDoorC1
import Derived.Test.YtjkmdpejcgepkaaGreatDoorB0
namespace Go.Proofs.YtjkmdpejcgepkaaGreatDoor
open Go.RowKit
structure Part where
  day : Int
  paras : List Para
  deriving Inhabited
structure Vol where
  number : Int
  bound : Int
  height : Int
  width : Int
  parts : List Part
  deriving Inhabited
def EP : Enc Para := ⟨Para.enc, 2, fun _ => rfl, fun x u hu => by simp [Para.enc] at hu; rcases hu with rfl | rfl <;> rfl, by decide⟩
def EE : Enc Err := ⟨Err.enc, 6, fun _ => rfl, fun x u hu => by simp [Err.enc] at hu; rcases hu with rfl | rfl | rfl | rfl | rfl | rfl <;> rfl, by decide⟩
def RdP (w : World) (v : Value) (xs : List Para) : Prop := Rd EP.f EP.k w v xs
def RdE (w : World) (v : Value) (xs : List Err) : Prop := Rd EE.f EE.k w v xs
def PartsAt (w : World) (b off : Nat) (ps : List Part) : Prop :=
  ∀ j, (h : j < ps.length) → w.cell? ⟨b, off + j * 2, none⟩ = some (.int .i64 ps[j].day) ∧ ∃ pv, w.cell? ⟨b, off + j * 2 + 1, none⟩ = some pv ∧ RdP w pv ps[j].paras
def RdParts (w : World) (v : Value) (ps : List Part) : Prop :=
  ∃ A c, v = .slice A ps.length c ∧ ps.length ≤ c ∧ (ps.length : Int) ≤ 9223372036854775807 ∧ (0 < ps.length → ∃ b off, A = some ⟨b, off, none⟩ ∧ b < w.heap.size ∧ PartsAt w b off ps)
theorem PartsAt.below {w W : World} {b off : Nat} {ps : List Part} (h : PartsAt w b off ps) (hb : b < w.heap.size) (hB : Below w.heap.size w W) : PartsAt W b off ps := by
  intro j hj
  obtain ⟨h1, pv, h2, h3⟩ := h j hj
  exact ⟨(hB.cell (p := ⟨b, _, none⟩) hb).trans h1, pv, (hB.cell (p := ⟨b, _, none⟩) hb).trans h2, Rd.below h3 hB⟩
theorem RdParts.below {w W : World} {v : Value} {ps : List Part} (h : RdParts w v ps) (hB : Below w.heap.size w W) : RdParts W v ps := by
  obtain ⟨A, c, rfl, hc, hm, h⟩ := h
  refine ⟨A, c, rfl, hc, hm, fun h0 => ?_⟩
  obtain ⟨b, off, rfl, hb, hr⟩ := h h0
  exact ⟨b, off, rfl, Nat.lt_of_lt_of_le hb hB.size, hr.below hb hB⟩
def Vol.val (x : Vol) (sv : Value) : Value := .agg #[.int .i64 x.number, .int .i64 x.bound, .int .i64 x.height, .int .i64 x.width, sv]
def IsVol (w : World) (v : Value) (x : Vol) : Prop := ∃ sv, v = x.val sv ∧ RdParts w sv x.parts
theorem IsVol.below {w W : World} {v : Value} {x : Vol} (h : IsVol w v x) (hB : Below w.heap.size w W) : IsVol W v x := by
  obtain ⟨sv, rfl, h⟩ := h
  exact ⟨sv, rfl, h.below hB⟩
/-- sizes that the guards keep small -/
def Vol.small (x : Vol) : Prop := x.parts.length ≤ 100 ∧ ∀ p ∈ x.parts, p.paras.length ≤ 1000 ∧ ∀ q ∈ p.paras, q.text.size ≤ 1000000
def Vol.paras (x : Vol) : List Para := x.parts.flatMap (·.paras)
theorem flat_le (ps : List Part) (h : ∀ p ∈ ps, p.paras.length ≤ 1000) : (ps.flatMap (·.paras)).length ≤ ps.length * 1000 := by
  induction ps with
  | nil => simp
  | cons p ps ih =>
    have h1 := h p (List.mem_cons_self ..)
    have h2 := ih fun q hq => h q (List.mem_cons_of_mem _ hq)
    simp only [List.flatMap_cons, List.length_append, List.length_cons]
    omega
theorem take_paras_le (ps : List Part) (kk : Nat) (hl : ps.length ≤ 100) (h : ∀ p ∈ ps, p.paras.length ≤ 1000) : ((ps.take kk).flatMap (·.paras)).length ≤ 100000 := by
  have := flat_le (ps.take kk) (fun p hp => h p (List.mem_of_mem_take hp))
  have h2 : (ps.take kk).length ≤ ps.length := by rw [List.length_take]; omega
  omega
theorem take_paras_succ (ps : List Part) (kk : Nat) (hlt : kk < ps.length) : (ps.take (kk + 1)).flatMap (·.paras) = (ps.take kk).flatMap (·.paras) ++ ps[kk].paras := by
  rw [List.take_succ_eq_append_getElem hlt, List.flatMap_append]
  simp
theorem Tryz.infoPara : (Tryz.prog.info? 67).map (fun i => (i.zero, i.size, i.bytes)) = some (some (.agg #[.int .i64 0, .string ⟨#[]⟩]), 2, 24) := by kernel_rfl
/-- what paragraphs returns -/
def ParasPost (w : World) (xs : List Para) (e : Ending) (w' : World) : Prop := ∃ v, e = .returned v ∧ Own EP 67 w' w.heap.size v xs ∧ Below w.heap.size w w'
set_option maxHeartbeats 800000 in
theorem paragraphs_any (v : Value) (x : Vol) (w : World) (hv : IsVol w v x) (hs : x.small) : Calls Tryz.prog 47 #[v] w (ParasPost w x.paras) := by
  obtain ⟨sv, rfl, A, c, rfl, hc, hm, hr⟩ := hv
  obtain ⟨n0, n1, n2, n3, ps⟩ := x
  have hps : ps.length ≤ 100 ∧ ∀ p ∈ ps, p.paras.length ≤ 1000 := ⟨hs.1, fun p hp => (hs.2 p hp).1⟩
  clear hs
  dsimp only [Vol.val] at hc hm hr ⊢
  show Calls _ _ _ _ (ParasPost w (ps.flatMap (·.paras)))
  have hB1 : Below w.heap.size w (w.alloc (.cells #[.int .i64 n0, .int .i64 n1, .int .i64 n2, .int .i64 n3, .slice A ps.length c] 37)) := (Below.refl _ _).alloc (Nat.le_refl _) _
  have hl : ps.length ≤ 100 := hps.1
  go_enter Tryz.func47, Tryz.ntmps47
  go_wp2
  go_loopg [2, 8] ps.length (fun gg s2 s8 wr => ∃ kk : Nat, kk ≤ ps.length ∧ ps.length - kk ≤ gg ∧ s8 = .int .i64 kk ∧ Aside (Below w.heap.size w wr ∧ Below (w.heap.size + 1) (w.alloc (.cells #[.int .i64 n0, .int .i64 n1, .int .i64 n2, .int .i64 n3, .slice A ps.length c] 37)) wr ∧ Own EP 67 wr (w.heap.size + 1) s2 ((ps.take kk).flatMap (·.paras))))
  case atStart => exact ⟨0, Nat.zero_le _, by omega, rfl, hB1, Below.refl _ _, Own.nil _ _ _ _⟩
  case round =>
    obtain ⟨kk, hkk, hg, rfl, A1⟩ := hrel
    by_cases hlt : kk < ps.length
    · obtain ⟨b, off, rfl, hb, hr1⟩ := hr (by omega)
      clear hr
      obtain ⟨d1, pv, d2, d3⟩ := (hr1.below hb A1.out.1) kk hlt
      clear hr1
      have hO := A1.out.2.2
      have hBw := A1.out.2.1
      have hsz : w.heap.size + 1 ≤ wr.heap.size := by have h := hBw.size; rw [World.size_alloc] at h; exact h
      have hw0 : wr.cell? ⟨w.heap.size, 4, none⟩ = some (.slice (some ⟨b, off, none⟩) ps.length c) := by
        rw [hBw.cell (p := ⟨w.heap.size, 4, none⟩) (by simp)]; simp [go_sem]
      have hpl : ps[kk].paras.length ≤ 1000 := hps.2 _ (List.getElem_mem hlt)
      have hfl := take_paras_le ps kk hl hps.2
      have hts := Lib.hid (take_paras_succ ps kk hlt)
      have AB : Aside (Below w.heap.size w wr ∧ Below (w.heap.size + 1) (w.alloc (.cells #[.int .i64 n0, .int .i64 n1, .int .i64 n2, .int .i64 n3, .slice (some ⟨b, off, none⟩) ps.length c] 37)) wr) := ⟨A1.out.1, hBw⟩
      clear A1 hBw hps hB1
      generalize (ps.take kk).flatMap (·.paras) = l0 at hts hO hfl
      generalize ps[kk].paras = p1 at hts d3 hpl
      generalize ps[kk].day = dd at d1
      obtain ⟨A2, c2, rfl, -⟩ := id d3
      have hO' := hO.alloc (.cells #[.int .i64 dd, .slice A2 p1.length c2] 79)
      have d3' := Rd.below d3 ((Below.refl _ wr).alloc (Nat.le_refl _) (.cells #[.int .i64 dd, .slice A2 p1.length c2] 79))
      have hbase : w.heap.size + 1 ≤ (wr.alloc (.cells #[.int .i64 dd, .slice A2 p1.length c2] 79)).heap.size := by simp; omega
      go_wp2_with (at_builtin; refine wp_append_rd EP (w.heap.size + 1) rfl _ _ 31 67 _ 24 rfl Tryz.underlying31 Tryz.infoPara rfl (by decide) u2 _ l0 p1 rfl rfl hO' d3' hbase (by omega) ?_; intro v1 w1 hO1 hg1 hb1 hat1)
      go_roundg (ps.length - (kk + 1))
      case measure => omega
      case rel =>
        exact ⟨kk + 1, by omega, by omega, by go_num, ((AB.out.1.alloc (by omega) _).trans (hb1.mono (by omega))), ((AB.out.2.alloc (by omega) _).trans hb1), by rw [hts.out]; exact hO1⟩
    · have : kk = ps.length := by omega
      subst this
      have A2 := A1.out
      clear A1 hr hB1 hps
      go_wp2
      go_ret
      refine ⟨_, rfl, ?_, A2.1⟩
      have h := A2.2.2
      rw [List.take_length] at h
      exact h.lower (by omega)
end Go.Proofs.YtjkmdpejcgepkaaGreatDoor
/- Whether a volume is valid, but for its anchors being the same. -/
namespace Go.Proofs.YtjkmdpejcgepkaaGreatDoor
open Go.RowKit
theorem q_same {P : Program} {f : FuncId} {args : Array Value} {w : World} {n : Nat} {v : Value}
    (h : Calls P f args (w.drewN n) fun e w' => e = .returned v ∧ w.drewN n = w') : Calls P f args (w.drewN n) fun e w'' => e = .returned v ∧ ∃ m, w'' = w.drewN m :=
  h.mono fun _ _ ⟨he, hm⟩ => ⟨he, n, hm.symm⟩
theorem _root_.Go.RowKit.Below.drewN {B : Nat} {a w : World} (h : Below B a w) (n : Nat) : Below B a (w.drewN n) := ⟨h.os, h.tape, h.output, h.size, h.block⟩
theorem PartsAt.day {w : World} {b off : Nat} {ps : List Part} (h : PartsAt w b off ps) (j : Nat) (hj : j < ps.length) : w.cell? ⟨b, off + j * 2, none⟩ = some (.int .i64 ps[j].day) := (h j hj).1
/-- the day of part j is right -/
def dayAt (bound : Int) (ps : List Part) (j : Nat) : Bool :=
  dayB (ps.getD j default).day && !(decide (bound < (ps.getD j default).day)) && (j == 0 || decide ((ps.getD (j - 1) default).day < (ps.getD j default).day))
def daysB (bound : Int) (ps : List Part) : Bool := (List.range ps.length).all (dayAt bound ps)
theorem daysB_no {bound : Int} {ps : List Part} {j : Nat} (hj : j < ps.length) (h : dayAt bound ps j = false) : daysB bound ps = false := by
  unfold daysB
  rw [List.all_eq_false]
  exact ⟨j, by simpa using hj, by simp [h]⟩
theorem daysB_yes {bound : Int} {ps : List Part} (h : ∀ j, j < ps.length → dayAt bound ps j = true) : daysB bound ps = true := by
  unfold daysB
  rw [List.all_eq_true]
  intro j hj
  exact h j (by simpa using hj)
def Vol.valid (x : Vol) : Bool := daysB x.bound x.parts && (withinB x.number 1 99 && dayB x.bound && withinB x.height 1 60 && withinB x.width 10 80 && x.paras.all Para.ok)
set_option maxHeartbeats 2000000 in
theorem valid_any (v : Value) (x : Vol) (w : World) (hv : IsVol w v x) (hs : x.small) : Calls Tryz.prog 48 #[v] w fun e w' => e = .returned (.bool x.valid) ∧ Below w.heap.size w w' := by
  obtain ⟨sv, rfl, A, c, rfl, hc, hm, hr⟩ := id hv
  obtain ⟨n0, n1, n2, n3, ps⟩ := x
  have hB1 : Below w.heap.size w (w.alloc (.cells #[.int .i64 n0, .int .i64 n1, .int .i64 n2, .int .i64 n3, .slice A ps.length c] 37)) := (Below.refl _ _).alloc (Nat.le_refl _) _
  have R : Hid ((Vol.mk n0 n1 n2 n3 ps).valid = (daysB n1 ps && (withinB n0 1 99 && dayB n1 && withinB n2 1 60 && withinB n3 10 80 && (Vol.mk n0 n1 n2 n3 ps).paras.all Para.ok))) := Lib.hid rfl
  dsimp only [Vol.val] at hc hm hr ⊢
  generalize (Vol.mk n0 n1 n2 n3 ps).valid = r at R ⊢
  have HV : Hid (IsVol w ((Vol.mk n0 n1 n2 n3 ps).val (.slice A ps.length c)) (Vol.mk n0 n1 n2 n3 ps) ∧ (Vol.mk n0 n1 n2 n3 ps).small) := Lib.hid ⟨hv, hs⟩
  clear hs hv
  go_enter Tryz.func48, Tryz.ntmps48
  go_wp2
  go_loopg [3, 4, 8] ps.length (fun gg s3 s4 s8 wr => ∃ kk : Nat, kk ≤ ps.length ∧ ps.length - kk ≤ gg ∧ s8 = .int .i64 kk ∧ Aside (Below w.heap.size w wr ∧ Below (w.heap.size + 1) (w.alloc (.cells #[.int .i64 n0, .int .i64 n1, .int .i64 n2, .int .i64 n3, .slice A ps.length c] 37)) wr ∧ ∀ j, j < kk → dayAt n1 ps j = true))
  case atStart => exact ⟨0, Nat.zero_le _, by omega, rfl, hB1, Below.refl _ _, fun j hj => absurd hj (Nat.not_lt_zero _)⟩
  case round =>
    obtain ⟨kk, hkk, hg, rfl, A1⟩ := hrel
    by_cases hlt : kk < ps.length
    · obtain ⟨b, off, rfl, hb, hr1⟩ := hr (by omega)
      clear hr HV
      have hP := hr1.below hb A1.out.1
      obtain ⟨d1, pv, d2, d3⟩ := hP kk hlt
      have hgd : Hid (ps.getD kk default = ps[kk]) := Lib.hid (by rw [List.getD_eq_getElem?_getD, List.getElem?_eq_getElem hlt]; rfl)
      obtain ⟨A2, c2, rfl, -⟩ := id d3
      clear d3
      have hBw := A1.out.2.1
      have hsz : w.heap.size + 1 ≤ wr.heap.size := by have h := hBw.size; rw [World.size_alloc] at h; exact h
      have hbw : b < wr.heap.size := by omega
      have hwlt : w.heap.size < wr.heap.size := by omega
      have hw1 : wr.cell? ⟨w.heap.size, 1, none⟩ = some (.int .i64 n1) := by
        rw [hBw.cell (p := ⟨w.heap.size, 1, none⟩) (by simp)]; simp [go_sem]
      have hw4 : wr.cell? ⟨w.heap.size, 4, none⟩ = some (.slice (some ⟨b, off, none⟩) ps.length c) := by
        rw [hBw.cell (p := ⟨w.heap.size, 4, none⟩) (by simp)]; simp [go_sem]
      clear hBw hB1
      have hF : Hid (∀ (W : World), Below wr.heap.size wr W → Below w.heap.size w W ∧ Below (w.heap.size + 1) (w.alloc (.cells #[.int .i64 n0, .int .i64 n1, .int .i64 n2, .int .i64 n3, .slice (some ⟨b, off, none⟩) ps.length c] 37)) W) :=
        Lib.hid fun W hW => ⟨A1.out.1.trans (hW.mono (by omega)), A1.out.2.1.trans (hW.mono (by omega))⟩
      have hD : Hid (dayAt n1 ps kk = (dayB ps[kk].day && !(decide (n1 < ps[kk].day)) && (kk == 0 || decide ((ps.getD (kk - 1) default).day < ps[kk].day)))) := Lib.hid (by unfold dayAt; rw [hgd.out])
      have hN : Hid (dayAt n1 ps kk = false → r = false) := Lib.hid fun h => by rw [R.out, daysB_no hlt h]; rfl
      have hY : Hid (dayAt n1 ps kk = true → ∀ j, j < kk + 1 → dayAt n1 ps j = true) := Lib.hid fun h j hj => by
        by_cases e : j = kk
        · rw [e]; exact h
        · exact A1.out.2.2 j (by omega)
      clear A1 R
      have hprev : 0 < kk → wr.cell? ⟨b, off + (kk - 1) * 2, none⟩ = some (.int .i64 (ps.getD (kk - 1) default).day) := fun h0 => by
        rw [hP.day (kk - 1) (by omega), List.getD_eq_getElem?_getD, List.getElem?_eq_getElem (by omega)]; rfl
      clear hP hr1
      generalize dayAt n1 ps kk = dk at hD hN hY
      generalize (ps.getD (kk - 1) default).day = pd at hD hprev
      generalize ps[kk].day = dd at hD d1
      generalize ps[kk].paras.length = m2 at d2
      have hin : Below wr.heap.size wr (wr.alloc (.cells #[.int .i64 dd, .slice A2 m2 c2] 79)) := (Below.refl _ _).alloc (Nat.le_refl _) _
      by_cases k0 : kk = 0
      · subst k0
        clear hprev
        simp only [Nat.zero_mul, Nat.add_zero] at d1 d2
        cases h1 : dayB dd
        · have HN := Lib.hid (hN.out (by rw [hD.out, h1]; rfl))
          go_wp2
          (go_quiet ((go_at_call 34; exact q_same (day_any _ _))))
          go_wp2
          go_ret
          exact ⟨ret_bool HN.out.symm, (hF.out _ (hin.drewN _)).1⟩
        by_cases h2 : n1 < dd
        · have HN := Lib.hid (hN.out (by rw [hD.out]; simp [h2]))
          have h2' : decide (n1 < dd) = true := by simpa using h2
          go_wp2
          (go_quiet ((go_at_call 34; exact q_same (day_any _ _))))
          go_wp2
          go_ret
          exact ⟨ret_bool HN.out.symm, (hF.out _ (hin.drewN _)).1⟩
        · have HY := Lib.hid (hY.out (by rw [hD.out]; simp [h1, h2]))
          have h2' : decide (n1 < dd) = false := by simpa using h2
          go_wp2
          (go_quiet ((go_at_call 34; exact q_same (day_any _ _))))
          go_wp2
          go_roundg (ps.length - (0 + 1))
          case measure => omega
          case rel => exact ⟨0 + 1, by omega, by omega, by go_num, (hF.out _ (hin.drewN _)).1, (hF.out _ (hin.drewN _)).2, HY.out⟩
      · have hp := hprev (by omega)
        have k0' : decide ((0 : Int) < (kk : Int)) = true := by simp; omega
        have k0n : decide (0 < kk) = true := by simp; omega
        have k1 : (0 : Int) ≤ (kk : Int) - 1 := by omega
        have k2 : (kk : Int) - 1 < (ps.length : Int) := by omega
        have k3 : ((kk : Int) - 1).toNat = kk - 1 := by omega
        clear hprev
        cases h1 : dayB dd
        · have HN := Lib.hid (hN.out (by rw [hD.out, h1]; rfl))
          go_wp2
          (go_quiet ((go_at_call 34; exact q_same (day_any _ _))))
          go_wp2
          go_ret
          exact ⟨ret_bool HN.out.symm, (hF.out _ (hin.drewN _)).1⟩
        by_cases h2 : n1 < dd
        · have HN := Lib.hid (hN.out (by rw [hD.out]; simp [h2]))
          have h2' : decide (n1 < dd) = true := by simpa using h2
          go_wp2
          (go_quiet ((go_at_call 34; exact q_same (day_any _ _))))
          go_wp2
          go_ret
          exact ⟨ret_bool HN.out.symm, (hF.out _ (hin.drewN _)).1⟩
        have h2' : decide (n1 < dd) = false := by simpa using h2
        by_cases h3 : dd ≤ pd
        · have HN := Lib.hid (hN.out (by rw [hD.out]; simp [k0]; omega))
          have h3' : decide (dd ≤ pd) = true := by simpa using h3
          go_wp2
          (go_quiet ((go_at_call 34; exact q_same (day_any _ _))))
          go_wp2
          go_ret
          exact ⟨ret_bool HN.out.symm, (hF.out _ (hin.drewN _)).1⟩
        · have HY := Lib.hid (hY.out (by rw [hD.out]; simp [h1, h2, k0]; omega))
          have h3' : decide (dd ≤ pd) = false := by simpa using h3
          go_wp2
          (go_quiet ((go_at_call 34; exact q_same (day_any _ _))))
          go_wp2
          go_roundg (ps.length - (kk + 1))
          case measure => omega
          case rel => exact ⟨kk + 1, by omega, by omega, by go_num, (hF.out _ (hin.drewN _)).1, (hF.out _ (hin.drewN _)).2, HY.out⟩
    · have : kk = ps.length := by omega
      subst this
      have hd : daysB n1 ps = true := daysB_yes A1.out.2.2
      have hBw := A1.out.2.1
      have hBW := A1.out.1
      have hIV := HV.out.1.below hBW
      have hsm := HV.out.2
      clear hB1 A1 HV hr
      have hsz : w.heap.size < wr.heap.size := by have h := hBw.size; rw [World.size_alloc] at h; omega
      have c0 : wr.cell? ⟨w.heap.size, 0, none⟩ = some (.int .i64 n0) := by rw [hBw.cell (p := ⟨w.heap.size, 0, none⟩) (by simp)]; simp [go_sem]
      have c1 : wr.cell? ⟨w.heap.size, 1, none⟩ = some (.int .i64 n1) := by rw [hBw.cell (p := ⟨w.heap.size, 1, none⟩) (by simp)]; simp [go_sem]
      have c2 : wr.cell? ⟨w.heap.size, 2, none⟩ = some (.int .i64 n2) := by rw [hBw.cell (p := ⟨w.heap.size, 2, none⟩) (by simp)]; simp [go_sem]
      have c3 : wr.cell? ⟨w.heap.size, 3, none⟩ = some (.int .i64 n3) := by rw [hBw.cell (p := ⟨w.heap.size, 3, none⟩) (by simp)]; simp [go_sem]
      have c4 : wr.cell? ⟨w.heap.size, 4, none⟩ = some (.slice A ps.length c) := by rw [hBw.cell (p := ⟨w.heap.size, 4, none⟩) (by simp)]; simp [go_sem]
      clear hBw
      have R1 : Hid (r = (withinB n0 1 99 && dayB n1 && withinB n2 1 60 && withinB n3 10 80 && (Vol.mk n0 n1 n2 n3 ps).paras.all Para.ok)) := Lib.hid (by rw [R.out, hd]; rfl)
      have HB : Hid (Below w.heap.size w wr) := Lib.hid hBW
      have hfit : Hid (∀ y ∈ (Vol.mk n0 n1 n2 n3 ps).paras, y.fits) := Lib.hid fun y hy => by
        obtain ⟨q, hq, hy'⟩ := List.mem_flatMap.1 hy
        have := (hsm.2 q hq).2 y hy'
        unfold Para.fits; omega
      have hpar := paragraphs_any _ _ _ hIV hsm
      clear R hd hBW hIV hsm
      generalize (Vol.mk n0 n1 n2 n3 ps).paras = l at R1 hfit hpar
      dsimp only [Vol.val] at hpar
      cases h0 : withinB n0 1 99
      · have HN := Lib.hid (show r = false by rw [R1.out, h0]; rfl)
        clear R1 hpar
        go_wp2_with (first | (go_at_call 40; refine (within_any _ _ _ _).mono ?_; rintro e w' ⟨rfl, rfl⟩) | (go_at_call 34; refine (day_any _ _).mono ?_; rintro e w' ⟨rfl, rfl⟩))
        go_ret
        exact ⟨ret_bool HN.out.symm, HB.out⟩
      cases h1 : dayB n1
      · have HN := Lib.hid (show r = false by rw [R1.out, h1]; simp)
        clear R1 hpar
        go_wp2_with (first | (go_at_call 40; refine (within_any _ _ _ _).mono ?_; rintro e w' ⟨rfl, rfl⟩) | (go_at_call 34; refine (day_any _ _).mono ?_; rintro e w' ⟨rfl, rfl⟩))
        go_ret
        exact ⟨ret_bool HN.out.symm, HB.out⟩
      cases h2 : withinB n2 1 60
      · have HN := Lib.hid (show r = false by rw [R1.out, h2]; simp)
        clear R1 hpar
        go_wp2_with (first | (go_at_call 40; refine (within_any _ _ _ _).mono ?_; rintro e w' ⟨rfl, rfl⟩) | (go_at_call 34; refine (day_any _ _).mono ?_; rintro e w' ⟨rfl, rfl⟩))
        go_ret
        exact ⟨ret_bool HN.out.symm, HB.out⟩
      cases h3 : withinB n3 10 80
      · have HN := Lib.hid (show r = false by rw [R1.out, h3]; simp)
        clear R1 hpar
        go_wp2_with (first | (go_at_call 40; refine (within_any _ _ _ _).mono ?_; rintro e w' ⟨rfl, rfl⟩) | (go_at_call 34; refine (day_any _ _).mono ?_; rintro e w' ⟨rfl, rfl⟩))
        go_ret
        exact ⟨ret_bool HN.out.symm, HB.out⟩
      have HN := Lib.hid (show r = l.all Para.ok by rw [R1.out, h0, h1, h2, h3]; rfl)
      clear R1
      go_wp2_with (first | (first | (go_at_call 40; refine (within_any _ _ _ _).mono ?_; rintro e w' ⟨rfl, rfl⟩) | (go_at_call 34; refine (day_any _ _).mono ?_; rintro e w' ⟨rfl, rfl⟩)) | (go_at_call 47; refine hpar.mono ?_; rintro e w' ⟨pv, rfl, hO, hb⟩))
      refine (all_para l pv 68 #[] Para.fits Para.ok _ hO.rd hfit.out (enters_of Tryz.func68 (by kernel_rfl) rfl) (valid1_pred _)).mono ?_
      rintro e w2 ⟨rfl, hb2⟩
      go_wp2
      go_ret
      exact ⟨ret_bool HN.out.symm, (HB.out.go hb).go hb2⟩
end Go.Proofs.YtjkmdpejcgepkaaGreatDoor
/- CheckVolume: the error of a volume. -/
namespace Go.Proofs.YtjkmdpejcgepkaaGreatDoor
open Go.RowKit
def ancs (l : List Para) : List Int := l.map (·.anchor)
def checkVol (x : Vol) : Int :=
  if 6 < x.parts.length ∨ 30 < x.paras.length then 3 else if x.valid = false then 1 else if (ancs x.paras).Nodup then 0 else 6
theorem nodup_take_succ (l : List Int) (k : Nat) (hk : k < l.length) (h : (l.take k).Nodup) (hn : l[k] ∉ l.take k) : (l.take (k + 1)).Nodup := by
  rw [List.take_succ_eq_append_getElem hk, List.nodup_append]
  refine ⟨h, by simp, fun a ha b hb => ?_⟩
  simp only [List.mem_singleton] at hb
  subst hb
  exact fun e => hn (e ▸ ha)
theorem not_nodup_take (l : List Int) (k : Nat) (hk : k < l.length) (hn : l[k] ∈ l.take k) : ¬ l.Nodup := by
  intro h
  obtain ⟨i, hi, e⟩ := List.mem_iff_getElem.1 hn
  have h2 : i < k := by rw [List.length_take] at hi; omega
  rw [List.getElem_take] at e
  have := (List.getElem_inj (h₀ := by omega) (h₁ := hk) h).1 e
  omega
theorem anchorB_in {a : Int} (h : anchorB a = true) : 1 ≤ a ∧ a ≤ 999 := by
  unfold anchorB withinB at h; simpa using h
theorem ok_anchor {p : Para} (h : p.ok = true) : 1 ≤ p.anchor ∧ p.anchor ≤ 999 := by
  unfold Para.ok at h
  rw [Bool.and_eq_true] at h
  exact anchorB_in h.1
theorem valid_paras {x : Vol} (h : x.valid = true) : ∀ p ∈ x.paras, 1 ≤ p.anchor ∧ p.anchor ≤ 999 := by
  unfold Vol.valid at h
  simp only [Bool.and_eq_true] at h
  intro p hp
  exact ok_anchor (List.all_eq_true.1 h.2.2 p hp)
set_option maxHeartbeats 2000000 in
theorem CheckVolume_any (v : Value) (x : Vol) (w : World) (hv : IsVol w v x) (hs : x.small) : Calls Tryz.prog 27 #[v] w fun e w' => e = .returned (.int .i64 (checkVol x)) ∧ Below w.heap.size w w' := by
  have hmm := @run_makeMap Tryz.prog
  have hvA : ∀ W, Below w.heap.size w W → Calls Tryz.prog 48 #[v] W fun e w' => e = .returned (.bool x.valid) ∧ Below W.heap.size W w' := fun W hW => valid_any v x W (hv.below hW) hs
  obtain ⟨sv, rfl, A, c, rfl, hc, hm, hr⟩ := id hv
  have hpl : x.paras.length ≤ 100000 := by
    have := take_paras_le x.parts x.parts.length hs.1 (fun p hp => (hs.2 p hp).1)
    rwa [List.take_length] at this
  have hval := @valid_paras x
  have R : Hid (checkVol x = if 6 < x.parts.length ∨ 30 < x.paras.length then 3 else if x.valid = false then 1 else if (ancs x.paras).Nodup then 0 else 6) := Lib.hid rfl
  have hpar : ∀ W, Below w.heap.size w W → Calls Tryz.prog 47 #[x.val (.slice A x.parts.length c)] W (ParasPost W x.paras) := fun W hW => paragraphs_any _ x W (hv.below hW) hs
  have hl := hs.1
  clear hv hs hr
  obtain ⟨n0, n1, n2, n3, ps⟩ := x
  dsimp only [Vol.val] at hvA hpar hc hm hl R ⊢
  generalize checkVol _ = r at R ⊢
  generalize (Vol.mk n0 n1 n2 n3 ps).valid = vb at R hvA hval
  generalize (Vol.mk n0 n1 n2 n3 ps).paras = l at R hpar hval hpl
  have hB1 : Below w.heap.size w (w.alloc (.cells #[.int .i64 n0, .int .i64 n1, .int .i64 n2, .int .i64 n3, .slice A ps.length c] 37)) := (Below.refl _ _).alloc (Nat.le_refl _) _
  have hpar1 := hpar _ hB1
  clear hpar
  by_cases h6 : 6 < ps.length
  · have HN := Lib.hid (show r = 3 by rw [R.out, if_pos (.inl h6)])
    have h6' : (6 : Int) < (ps.length : Int) := by omega
    clear R hval hvA h6
    go_enter Tryz.func27, Tryz.ntmps27
    go_wp2_with (go_at_call 47; refine hpar1.mono ?_; rintro e w' ⟨pv, rfl, hO, hb⟩; obtain ⟨hc1, hf1⟩ := bcell hb)
    go_ret
    exact ⟨ret_int HN.out.symm, hB1.go hb⟩
  have h6' : decide ((6 : Int) < (ps.length : Int)) = false := by simp; omega
  have h6n : decide (6 < ps.length) = false := by simp; omega
  by_cases h30 : 30 < l.length
  · have HN := Lib.hid (show r = 3 by rw [R.out, if_pos (.inr h30)])
    have h30' : (30 : Int) < (l.length : Int) := by omega
    clear R hval hvA
    go_enter Tryz.func27, Tryz.ntmps27
    go_wp2_with (go_at_call 47; refine hpar1.mono ?_; rintro e w' ⟨pv, rfl, hO, hb⟩; obtain ⟨hc1, hf1⟩ := bcell hb; obtain ⟨A2, c2, rfl, -⟩ := id hO.rd)
    go_ret
    exact ⟨ret_int HN.out.symm, hB1.go hb⟩
  have h30' : decide ((30 : Int) < (l.length : Int)) = false := by simp; omega
  have h30n : decide (30 < l.length) = false := by simp; omega
  have R1 : Hid (r = if vb = false then 1 else if (ancs l).Nodup then 0 else 6) := Lib.hid (by rw [R.out, if_neg (by omega)])
  clear R
  cases vb
  · have HN := Lib.hid (show r = 1 by rw [R1.out]; rfl)
    clear R1 hval
    go_enter Tryz.func27, Tryz.ntmps27
    go_wp2_with (go_at_call 47; refine hpar1.mono ?_; rintro e w' ⟨pv, rfl, hO, hb⟩; obtain ⟨hc1, hf1⟩ := bcell hb; obtain ⟨A2, c2, rfl, -⟩ := id hO.rd)
    refine (hvA _ (hB1.go hb)).mono ?_
    rintro e w2 ⟨rfl, hb2⟩
    go_wp2
    go_ret
    exact ⟨ret_int HN.out.symm, (hB1.go hb).go hb2⟩
  have R2 : Hid (r = if (ancs l).Nodup then 0 else 6) := Lib.hid R1.out
  have hval' := Lib.hid (hval rfl)
  clear R1 hval
  go_enter Tryz.func27, Tryz.ntmps27
  go_wp2_with (go_at_call 47; refine hpar1.mono ?_; rintro e w' ⟨pv, rfl, hO, hb⟩; obtain ⟨hc1, hf1⟩ := bcell hb; obtain ⟨A2, c2, rfl, -⟩ := id hO.rd)
  refine (hvA _ (hB1.go hb)).mono ?_
  rintro e w2 ⟨rfl, hb2⟩
  have hBB := Lib.hid ((hB1.go hb).go hb2)
  have hrd : Hid (Rd EP.f EP.k w2 (.slice A2 l.length c2) l) := Lib.hid (hO.rd.below hb2)
  clear hO hb hb2 hc1 hf1 hB1 hpar1 hvA h6' h6n h30' h30n hl hc hm
  go_wp2
  have hB0 : Below w2.heap.size w2 (w2.alloc (.map #[] 0)) := (Below.refl _ _).alloc (Nat.le_refl _) _
  go_loopg [6, 26] l.length (fun gg s6 s26 wr => ∃ kk : Nat, kk ≤ l.length ∧ l.length - kk ≤ gg ∧ s26 = .int .i64 kk ∧ Aside (Below w2.heap.size w2 wr ∧ OwnSet wr w2.heap.size kk ((ancs l).take kk).reverse ∧ ((ancs l).take kk).Nodup))
  case atStart => exact ⟨0, Nat.zero_le _, by omega, rfl, hB0, by simpa using OwnSet.made w2, by simp⟩
  case round =>
    obtain ⟨kk, hkk, hg, rfl, A1⟩ := hrel
    have hal : (ancs l).length = l.length := by simp [ancs]
    by_cases hlt : kk < l.length
    · obtain ⟨A3, c3, e3, _, _, hr3⟩ := hrd.out.below A1.out.1
      obtain ⟨b, off, rfl, hbl, hrow⟩ := hr3 (by omega)
      simp only [Value.slice.injEq] at e3
      obtain ⟨rfl, -, rfl⟩ := e3
      clear hr3
      have hin := (hval'.out) _ (List.getElem_mem hlt)
      have hc' := hrow kk hlt
      have hga : Hid ((ancs l)[kk]'(by omega) = l[kk].anchor) := Lib.hid (by simp [ancs])
      generalize l[kk] = y at hc' hin hga
      obtain ⟨ya, yt⟩ := y
      dsimp only at hin hga
      have c0 := hc' 0 _ rfl; have c1 := hc' 1 _ rfl
      clear hc' hrow
      have ek : EP.k = 2 := rfl
      simp only [Nat.add_zero, ek] at c0 c1
      clear ek
      have hk64 : inI64 ya := inI64_of (by omega) (by omega)
      have hkk2 : kk < maxLen := by unfold maxLen; omega
      have hS := A1.out.2.1
      have hS' := hS.alloc (.cells #[.int .i64 ya, .string yt] 67)
      have hsz : w2.heap.size < wr.heap.size := hS.lt
      have hAB : Hid (Below w2.heap.size w2 wr) := Lib.hid A1.out.1
      by_cases hin2 : ya ∈ (ancs l).take kk
      · have HN := Lib.hid (show r = 6 by
          rw [R2.out, if_neg (not_nodup_take (ancs l) kk (by omega) (by rw [hga.out]; exact hin2))])
        have hdec : decide (ya ∈ ((ancs l).take kk).reverse) = true := by simpa using hin2
        clear A1 hS hin2 hga R2
        generalize ((ancs l).take kk).reverse = acc at hS' hdec
        go_wp2_with (at_lookup; refine wp_set_lookup rfl _ _ rfl w2.heap.size kk acc ya rfl hS' rfl hk64 ?_; rw [hdec])
        go_ret
        exact ⟨ret_int HN.out.symm, (hBB.out.go hAB.out).alloc (by have h1 := hBB.out.size; omega) _⟩
      · have hdec : decide (ya ∈ ((ancs l).take kk).reverse) = false := by simpa using hin2
        have hnd : Hid (((ancs l).take (kk + 1)).Nodup) := Lib.hid (nodup_take_succ _ kk (by omega) A1.out.2.2 (by rw [hga.out]; exact hin2))
        have hrev : Hid (((ancs l).take (kk + 1)).reverse = ya :: ((ancs l).take kk).reverse) := Lib.hid (by
          rw [List.take_succ_eq_append_getElem (by omega), List.reverse_append, hga.out]; rfl)
        clear A1 hS hin2 hga
        generalize hacc : ((ancs l).take kk).reverse = acc at hS' hdec hrev
        clear hacc
        go_wp2_with (first | (at_lookup; refine wp_set_lookup rfl _ _ rfl w2.heap.size kk acc ya rfl hS' rfl hk64 ?_; rw [hdec]) | (at_mapUpdate; refine wp_set_put rfl _ _ _ rfl w2.heap.size kk acc ya rfl hS' hkk2 rfl rfl hk64 ?_; intro w3 hS3 hg3))
        go_roundg (l.length - (kk + 1))
        case measure => omega
        case rel =>
          refine ⟨kk + 1, by omega, by omega, by go_num, ?_, ?_, hnd.out⟩
          · exact ((hAB.out.alloc (by omega) _).grown hg3 (by simp; omega) (fun k e => by cases e; exact Nat.le_refl _))
          · rw [hrev.out]; exact hS3
    · have : kk = l.length := by omega
      subst this
      have hnd := A1.out.2.2
      rw [List.take_of_length_le (by omega)] at hnd
      have HN := Lib.hid (show r = 0 by rw [R2.out, if_pos hnd])
      have hAB := Lib.hid A1.out.1
      clear A1 hnd R2 hrd hval'
      go_wp2
      go_ret
      exact ⟨ret_int HN.out.symm, hBB.out.go hAB.out⟩
end Go.Proofs.YtjkmdpejcgepkaaGreatDoor
