/- Volumes as they are read; all paragraphs of a volume. -/
import Derived.Test.YtjkmdpejcgepkaaGreatDoorC3
import Derived.Test.YtjkmdpejcgepkaaGreatDoorB1
namespace Go.Proofs.YtjkmdpejcgepkaaGreatDoor
open Go.RowKit
structure Part where
  day : Int
  paras : List Para
  deriving Inhabited
structure Vol where
  number : Int
  bound : Int
  height : Int
  width : Int
  parts : List Part
  deriving Inhabited
def EP : Enc Para := ⟨Para.enc, 2, fun _ => rfl, fun x u hu => by simp [Para.enc] at hu; rcases hu with rfl | rfl <;> rfl, by decide⟩
def EE : Enc Err := ⟨Err.enc, 6, fun _ => rfl, fun x u hu => by simp [Err.enc] at hu; rcases hu with rfl | rfl | rfl | rfl | rfl | rfl <;> rfl, by decide⟩
def RdP (w : World) (v : Value) (xs : List Para) : Prop := Rd EP.f EP.k w v xs
def RdE (w : World) (v : Value) (xs : List Err) : Prop := Rd EE.f EE.k w v xs
def PartsAt (w : World) (b off : Nat) (ps : List Part) : Prop :=
  ∀ j, (h : j < ps.length) → w.cell? ⟨b, off + j * 2, none⟩ = some (.int .i64 ps[j].day) ∧ ∃ pv, w.cell? ⟨b, off + j * 2 + 1, none⟩ = some pv ∧ RdP w pv ps[j].paras
def RdParts (w : World) (v : Value) (ps : List Part) : Prop :=
  ∃ A c, v = .slice A ps.length c ∧ ps.length ≤ c ∧ (ps.length : Int) ≤ 9223372036854775807 ∧ (0 < ps.length → ∃ b off, A = some ⟨b, off, none⟩ ∧ b < w.heap.size ∧ PartsAt w b off ps)
theorem PartsAt.below {w W : World} {b off : Nat} {ps : List Part} (h : PartsAt w b off ps) (hb : b < w.heap.size) (hB : Below w.heap.size w W) : PartsAt W b off ps := by
  intro j hj
  obtain ⟨h1, pv, h2, h3⟩ := h j hj
  exact ⟨(hB.cell (p := ⟨b, _, none⟩) hb).trans h1, pv, (hB.cell (p := ⟨b, _, none⟩) hb).trans h2, Rd.below h3 hB⟩
theorem RdParts.below {w W : World} {v : Value} {ps : List Part} (h : RdParts w v ps) (hB : Below w.heap.size w W) : RdParts W v ps := by
  obtain ⟨A, c, rfl, hc, hm, h⟩ := h
  refine ⟨A, c, rfl, hc, hm, fun h0 => ?_⟩
  obtain ⟨b, off, rfl, hb, hr⟩ := h h0
  exact ⟨b, off, rfl, Nat.lt_of_lt_of_le hb hB.size, hr.below hb hB⟩
def Vol.val (x : Vol) (sv : Value) : Value := .agg #[.int .i64 x.number, .int .i64 x.bound, .int .i64 x.height, .int .i64 x.width, sv]
def IsVol (w : World) (v : Value) (x : Vol) : Prop := ∃ sv, v = x.val sv ∧ RdParts w sv x.parts
theorem IsVol.below {w W : World} {v : Value} {x : Vol} (h : IsVol w v x) (hB : Below w.heap.size w W) : IsVol W v x := by
  obtain ⟨sv, rfl, h⟩ := h
  exact ⟨sv, rfl, h.below hB⟩
/-- sizes that the guards keep small -/
def Vol.small (x : Vol) : Prop := x.parts.length ≤ 100 ∧ ∀ p ∈ x.parts, p.paras.length ≤ 1000 ∧ ∀ q ∈ p.paras, q.text.size ≤ 1000000
def Vol.paras (x : Vol) : List Para := x.parts.flatMap (·.paras)
theorem flat_le (ps : List Part) (h : ∀ p ∈ ps, p.paras.length ≤ 1000) : (ps.flatMap (·.paras)).length ≤ ps.length * 1000 := by
  induction ps with
  | nil => simp
  | cons p ps ih =>
    have h1 := h p (List.mem_cons_self ..)
    have h2 := ih fun q hq => h q (List.mem_cons_of_mem _ hq)
    simp only [List.flatMap_cons, List.length_append, List.length_cons]
    omega
theorem take_paras_le (ps : List Part) (kk : Nat) (hl : ps.length ≤ 100) (h : ∀ p ∈ ps, p.paras.length ≤ 1000) : ((ps.take kk).flatMap (·.paras)).length ≤ 100000 := by
  have := flat_le (ps.take kk) (fun p hp => h p (List.mem_of_mem_take hp))
  have h2 : (ps.take kk).length ≤ ps.length := by rw [List.length_take]; omega
  omega
theorem take_paras_succ (ps : List Part) (kk : Nat) (hlt : kk < ps.length) : (ps.take (kk + 1)).flatMap (·.paras) = (ps.take kk).flatMap (·.paras) ++ ps[kk].paras := by
  rw [List.take_succ_eq_append_getElem hlt, List.flatMap_append]
  simp
theorem Tryz.infoPara : (Tryz.prog.info? 67).map (fun i => (i.zero, i.size, i.bytes)) = some (some (.agg #[.int .i64 0, .string ⟨#[]⟩]), 2, 24) := by kernel_rfl
/-- what paragraphs returns -/
def ParasPost (w : World) (xs : List Para) (e : Ending) (w' : World) : Prop := ∃ v, e = .returned v ∧ Own EP 67 w' w.heap.size v xs ∧ Below w.heap.size w w'
set_option maxHeartbeats 800000 in
theorem paragraphs_any (v : Value) (x : Vol) (w : World) (hv : IsVol w v x) (hs : x.small) : Calls Tryz.prog 47 #[v] w (ParasPost w x.paras) := by
  obtain ⟨sv, rfl, A, c, rfl, hc, hm, hr⟩ := hv
  obtain ⟨n0, n1, n2, n3, ps⟩ := x
  have hps : ps.length ≤ 100 ∧ ∀ p ∈ ps, p.paras.length ≤ 1000 := ⟨hs.1, fun p hp => (hs.2 p hp).1⟩
  clear hs
  dsimp only [Vol.val] at hc hm hr ⊢
  show Calls _ _ _ _ (ParasPost w (ps.flatMap (·.paras)))
  have hB1 : Below w.heap.size w (w.alloc (.cells #[.int .i64 n0, .int .i64 n1, .int .i64 n2, .int .i64 n3, .slice A ps.length c] 37)) := (Below.refl _ _).alloc (Nat.le_refl _) _
  have hl : ps.length ≤ 100 := hps.1
  go_enter Tryz.func47, Tryz.ntmps47
  go_wp2
  go_loopg [2, 8] ps.length (fun gg s2 s8 wr => ∃ kk : Nat, kk ≤ ps.length ∧ ps.length - kk ≤ gg ∧ s8 = .int .i64 kk ∧ Aside (Below w.heap.size w wr ∧ Below (w.heap.size + 1) (w.alloc (.cells #[.int .i64 n0, .int .i64 n1, .int .i64 n2, .int .i64 n3, .slice A ps.length c] 37)) wr ∧ Own EP 67 wr (w.heap.size + 1) s2 ((ps.take kk).flatMap (·.paras))))
  case atStart => exact ⟨0, Nat.zero_le _, by omega, rfl, hB1, Below.refl _ _, Own.nil _ _ _ _⟩
  case round =>
    obtain ⟨kk, hkk, hg, rfl, A1⟩ := hrel
    by_cases hlt : kk < ps.length
    · obtain ⟨b, off, rfl, hb, hr1⟩ := hr (by omega)
      clear hr
      obtain ⟨d1, pv, d2, d3⟩ := (hr1.below hb A1.out.1) kk hlt
      clear hr1
      have hO := A1.out.2.2
      have hBw := A1.out.2.1
      have hsz : w.heap.size + 1 ≤ wr.heap.size := by have h := hBw.size; rw [World.size_alloc] at h; exact h
      have hw0 : wr.cell? ⟨w.heap.size, 4, none⟩ = some (.slice (some ⟨b, off, none⟩) ps.length c) := by
        rw [hBw.cell (p := ⟨w.heap.size, 4, none⟩) (by simp)]; simp [go_sem]
      have hpl : ps[kk].paras.length ≤ 1000 := hps.2 _ (List.getElem_mem hlt)
      have hfl := take_paras_le ps kk hl hps.2
      have hts := Lib.hid (take_paras_succ ps kk hlt)
      have AB : Aside (Below w.heap.size w wr ∧ Below (w.heap.size + 1) (w.alloc (.cells #[.int .i64 n0, .int .i64 n1, .int .i64 n2, .int .i64 n3, .slice (some ⟨b, off, none⟩) ps.length c] 37)) wr) := ⟨A1.out.1, hBw⟩
      clear A1 hBw hps hB1
      generalize (ps.take kk).flatMap (·.paras) = l0 at hts hO hfl
      generalize ps[kk].paras = p1 at hts d3 hpl
      generalize ps[kk].day = dd at d1
      obtain ⟨A2, c2, rfl, -⟩ := id d3
      have hO' := hO.alloc (.cells #[.int .i64 dd, .slice A2 p1.length c2] 79)
      have d3' := Rd.below d3 ((Below.refl _ wr).alloc (Nat.le_refl _) (.cells #[.int .i64 dd, .slice A2 p1.length c2] 79))
      have hbase : w.heap.size + 1 ≤ (wr.alloc (.cells #[.int .i64 dd, .slice A2 p1.length c2] 79)).heap.size := by simp; omega
      go_wp2_with (at_builtin; refine wp_append_rd EP (w.heap.size + 1) rfl _ _ 31 67 _ 24 rfl Tryz.underlying31 Tryz.infoPara rfl (by decide) u2 _ l0 p1 rfl rfl hO' d3' hbase (by omega) ?_; intro v1 w1 hO1 hg1 hb1 hat1)
      go_roundg (ps.length - (kk + 1))
      case measure => omega
      case rel =>
        exact ⟨kk + 1, by omega, by omega, by go_num, ((AB.out.1.alloc (by omega) _).trans (hb1.mono (by omega))), ((AB.out.2.alloc (by omega) _).trans hb1), by rw [hts.out]; exact hO1⟩
    · have : kk = ps.length := by omega
      subst this
      have A2 := A1.out
      clear A1 hr hB1 hps
      go_wp2
      go_ret
      refine ⟨_, rfl, ?_, A2.1⟩
      have h := A2.2.2
      rw [List.take_length] at h
      exact h.lower (by omega)
end Go.Proofs.YtjkmdpejcgepkaaGreatDoor
