/- VolumeEver: for the program. -/
import Derived.Test.YtjkmdpejcgepkaaGreatDoorEC
import Derived.Test.YtjkmdpejcgepkaaGreatDoorP1
import Derived.Deep.CutRange
import Derived.Deep.RegionHeld3
namespace Go.Proofs.YtjkmdpejcgepkaaGreatDoor
open Go.RowKit
theorem Tryz.infoRErr : (Tryz.prog.info? 27).map (fun i => (i.zero, i.size, i.bytes)) = some (some (.agg #[.int .i64 0, .int .i64 0, .int .u8 0, .int .i64 0, .string ⟨#[]⟩, .int .i64 0]), 6, 56) := by kernel_rfl
theorem err_block {W : World} {b : Nat} {y : Err} (hh : W.heap[b]? = some (.cells (EE.f y).toArray 27 (0, 0))) : Rd EE.f EE.k W (.slice (some ⟨b, 0, none⟩) 1 1) [y] :=
  rd_of_cells EE 27 hh (by simp [flat]) rfl (by decide)
/-- the list and one erratum more, whichever way the order is drawn -/
structure More (B : Nat) (y : Err) (er : List Err) (ev : Value) (bl : Nat) (lst : Value) (W : World) : Prop where
  own : Own EE 27 W B lst []
  rd : RdE W ev er
  base : B ≤ W.heap.size
theorem more1 (W0 : World) (y : Err) (er : List Err) (ev : Value) (he : RdE W0 ev er) :
    More W0.heap.size y er ev W0.heap.size (.slice (some ⟨W0.heap.size + 1, 0, none⟩) 0 0) ((W0.alloc (.cells (EE.f y).toArray 27)).alloc (.cells #[] 27)).drew := by
  have h := Own.empty_lit EE 27 (W0.alloc (.cells (EE.f y).toArray 27)) W0.heap.size (by simp)
  rw [World.size_alloc] at h
  exact ⟨h, Rd.below he ((((Below.refl _ _).alloc (Nat.le_refl _) _).alloc (by simp) _).drewN 1), by show _ ≤ (World.alloc _ _).heap.size; simp; omega⟩
theorem more2 (W0 : World) (y : Err) (er : List Err) (ev : Value) (he : RdE W0 ev er) :
    More W0.heap.size y er ev (W0.heap.size + 1) (.slice (some ⟨W0.heap.size, 0, none⟩) 0 0) ((W0.alloc (.cells #[] 27)).alloc (.cells (EE.f y).toArray 27)).drew := by
  have h := Own.empty_lit EE 27 W0 W0.heap.size (Nat.le_refl _)
  exact ⟨h.alloc _, Rd.below he ((((Below.refl _ _).alloc (Nat.le_refl _) _).alloc (by simp) _).drewN 1), by show _ ≤ (World.alloc _ _).heap.size; simp; omega⟩
theorem more3 (W0 : World) (y : Err) (er : List Err) (ev : Value) (he : RdE W0 ev er) :
    More W0.heap.size y er ev 0 (.slice (some ⟨W0.heap.size, 0, none⟩) 0 0) (W0.alloc (.cells #[] 27)).drew := by
  have h := Own.empty_lit EE 27 W0 W0.heap.size (Nat.le_refl _)
  exact ⟨h, Rd.below he (((Below.refl _ _).alloc (Nat.le_refl _) _).drewN 1), by show _ ≤ (World.alloc _ _).heap.size; simp⟩
theorem kept1 {W0 w1 : World} {y : Err} (hg : (((W0.alloc (.cells (EE.f y).toArray 27)).alloc (.cells #[] 27)).drew).grownBy w1 (some (W0.heap.size + 1))) : Rd EE.f EE.k w1 (.slice (some ⟨W0.heap.size, 0, none⟩) 1 1) [y] := by
  refine err_block ?_
  rw [hg.block W0.heap.size (by show _ < (World.alloc _ _).heap.size; simp; omega) (by simp)]
  show (World.alloc _ _).heap[_]? = _
  rw [Below.heap_alloc _ _ _ (by simp)]; exact World.alloc_heap_new _ _
theorem kept2 {W0 w1 : World} {y : Err} (hg : (((W0.alloc (.cells #[] 27)).alloc (.cells (EE.f y).toArray 27)).drew).grownBy w1 (some W0.heap.size)) : Rd EE.f EE.k w1 (.slice (some ⟨W0.heap.size + 1, 0, none⟩) 1 1) [y] := by
  refine err_block ?_
  rw [hg.block (W0.heap.size + 1) (by show _ < (World.alloc _ _).heap.size; simp) (by simp)]
  show (World.alloc _ _).heap[_]? = _
  have h := World.alloc_heap_new (W0.alloc (.cells #[] 27)) (.cells (EE.f y).toArray 27)
  rw [World.size_alloc] at h; exact h
/-- what every law keeps of its input: the volume's own block, the volume and one list of errata as they read, the library's variables -/
structure Keep1 (w : World) (x : Vol) (A : Option Addr) (c : Nat) (er : List Err) (ev : Value) (W : World) : Prop where
  k0 : W.cell? ⟨w.heap.size, 0, none⟩ = some (.int .i64 x.number)
  k1 : W.cell? ⟨w.heap.size, 1, none⟩ = some (.int .i64 x.bound)
  k2 : W.cell? ⟨w.heap.size, 2, none⟩ = some (.int .i64 x.height)
  k3 : W.cell? ⟨w.heap.size, 3, none⟩ = some (.int .i64 x.width)
  k4 : W.cell? ⟨w.heap.size, 4, none⟩ = some (.slice A x.parts.length c)
  vol : IsVol W (.agg #[.int .i64 x.number, .int .i64 x.bound, .int .i64 x.height, .int .i64 x.width, .slice A x.parts.length c]) x
  err : RdE W ev er
  glob : Glob W
  base : Below w.heap.size w W
  lt : w.heap.size < W.heap.size
theorem Keep1.below {w : World} {x : Vol} {A : Option Addr} {c : Nat} {er : List Err} {ev : Value} {W W' : World} (h : Keep1 w x A c er ev W) (hB : Below W.heap.size W W') : Keep1 w x A c er ev W' :=
  ⟨by rw [hB.cell (p := ⟨w.heap.size, _, none⟩) h.lt]; exact h.k0, by rw [hB.cell (p := ⟨w.heap.size, _, none⟩) h.lt]; exact h.k1, by rw [hB.cell (p := ⟨w.heap.size, _, none⟩) h.lt]; exact h.k2, by rw [hB.cell (p := ⟨w.heap.size, _, none⟩) h.lt]; exact h.k3, by rw [hB.cell (p := ⟨w.heap.size, _, none⟩) h.lt]; exact h.k4,
    h.vol.below hB, Rd.below h.err hB, h.glob.below hB, h.base.trans (hB.mono h.base.size), Nat.lt_of_lt_of_le h.lt hB.size⟩
structure EvS (w : World) (x : Vol) (A : Option Addr) (c : Nat) (er : List Err) (ev : Value) (y : Err) (al : Value) (W : World) : Prop extends Keep1 w x A c er ev W where
  m1 : W.cell? ⟨w.heap.size + 1, 1, none⟩ = some (.int .i64 y.day)
  all : RdE W al (er ++ [y])
  lt1 : w.heap.size + 1 < W.heap.size
theorem EvS.below {w : World} {x : Vol} {A : Option Addr} {c : Nat} {er : List Err} {ev : Value} {y : Err} {al : Value} {W W' : World} (h : EvS w x A c er ev y al W) (hB : Below W.heap.size W W') : EvS w x A c er ev y al W' :=
  ⟨h.toKeep1.below hB, by rw [hB.cell (p := ⟨w.heap.size + 1, _, none⟩) h.lt1]; exact h.m1, Rd.below h.all hB, Nat.lt_of_lt_of_le h.lt1 hB.size⟩
set_option maxHeartbeats 8000000 in
set_option maxRecDepth 100000 in
theorem ever_any (v ev : Value) (x : Vol) (er : List Err) (y : Err) (d : Int) (w : World) (hv : IsVol w v x) (he : RdE w ev er) (hl : (er.length + 1) * 56 ≤ 140737488355328) (hd : 0 ≤ d ∧ d ≤ 65535) (hG : Glob w) :
    Calls Tryz.prog 3 #[v, ev, y.val, .int .u16 d] w fun e w' => e = .returned (.bool true) ∧ Below w.heap.size w w' := by
  obtain ⟨sv, rfl, A, c, rfl, hx⟩ := id hv
  obtain ⟨A0, c0, rfl, -⟩ := id he
  obtain ⟨n0, n1, n2, n3, ps⟩ := x
  obtain ⟨y0, y1, y2, y3, y4, y5⟩ := y
  dsimp only [Vol.val, Err.val] at hx hv ⊢
  go_enter Tryz.func3, Tryz.ntmps3
  go_wp2
  obtain ⟨W0, hW0⟩ : ∃ W0, (w.alloc (.cells #[.int .i64 n0, .int .i64 n1, .int .i64 n2, .int .i64 n3, .slice A ps.length c] 24)).alloc (.cells #[.int .i64 y0, .int .i64 y1, .int .u8 y2, .int .i64 y3, .string y4, .int .i64 y5] 27) = W0 := ⟨_, rfl⟩
  rw [hW0]
  have HB0 : Below w.heap.size w W0 := by rw [← hW0]; exact ((Below.refl _ _).alloc (Nat.le_refl _) _).alloc (by simp) _
  have hz0 : W0.heap.size = w.heap.size + 1 + 1 := by rw [← hW0]; simp
  have m0 : W0.cell? ⟨w.heap.size + 1, 0, none⟩ = some (.int .i64 y0) := by rw [← hW0]; simp [go_sem]
  have m1 : W0.cell? ⟨w.heap.size + 1, 1, none⟩ = some (.int .i64 y1) := by rw [← hW0]; simp [go_sem]
  have m2 : W0.cell? ⟨w.heap.size + 1, 2, none⟩ = some (.int .u8 y2) := by rw [← hW0]; simp [go_sem]
  have m3 : W0.cell? ⟨w.heap.size + 1, 3, none⟩ = some (.int .i64 y3) := by rw [← hW0]; simp [go_sem]
  have m4 : W0.cell? ⟨w.heap.size + 1, 4, none⟩ = some (.string y4) := by rw [← hW0]; simp [go_sem]
  have m5 : W0.cell? ⟨w.heap.size + 1, 5, none⟩ = some (.int .i64 y5) := by rw [← hW0]; simp [go_sem]
  have v0 : W0.cell? ⟨w.heap.size, 0, none⟩ = some (.int .i64 n0) := by rw [← hW0]; simp [go_sem]
  have v1 : W0.cell? ⟨w.heap.size, 1, none⟩ = some (.int .i64 n1) := by rw [← hW0]; simp [go_sem]
  have v2 : W0.cell? ⟨w.heap.size, 2, none⟩ = some (.int .i64 n2) := by rw [← hW0]; simp [go_sem]
  have v3 : W0.cell? ⟨w.heap.size, 3, none⟩ = some (.int .i64 n3) := by rw [← hW0]; simp [go_sem]
  have v4 : W0.cell? ⟨w.heap.size, 4, none⟩ = some (.slice A ps.length c) := by rw [← hW0]; simp [go_sem]
  have mlt : w.heap.size + 1 < W0.heap.size := by omega
  have he0 : RdE W0 (.slice A0 er.length c0) er := Rd.below he HB0
  have CELLS : Hid (∀ W, Below W0.heap.size W0 W → W.cell? ⟨w.heap.size + 1, 0, none⟩ = some (.int .i64 y0) ∧ W.cell? ⟨w.heap.size + 1, 1, none⟩ = some (.int .i64 y1) ∧ W.cell? ⟨w.heap.size + 1, 2, none⟩ = some (.int .u8 y2) ∧ W.cell? ⟨w.heap.size + 1, 3, none⟩ = some (.int .i64 y3) ∧ W.cell? ⟨w.heap.size + 1, 4, none⟩ = some (.string y4) ∧ W.cell? ⟨w.heap.size + 1, 5, none⟩ = some (.int .i64 y5)) := Lib.hid fun W h => by
    refine ⟨?_, ?_, ?_, ?_, ?_, ?_⟩ <;> rw [h.cell (p := ⟨w.heap.size + 1, _, none⟩) mlt] <;> assumption
  have M1 := more1 W0 ⟨y0, y1, y2, y3, y4, y5⟩ er (.slice A0 er.length c0) he0
  have M2 := more2 W0 ⟨y0, y1, y2, y3, y4, y5⟩ er (.slice A0 er.length c0) he0
  have M3 := more3 W0 ⟨y0, y1, y2, y3, y4, y5⟩ er (.slice A0 er.length c0) he0
  have hl1 : (([] : List Err).length + er.length) * 56 ≤ 140737488355328 := by simp; omega
  have hl2 : (er.length + [(⟨y0, y1, y2, y3, y4, y5⟩ : Err)].length) * 56 ≤ 140737488355328 := by simpa using hl
  clear hW0 hz0
  go_cut [9] from 19 to 24 (fun s9 wx => Aside (Own EE 27 wx W0.heap.size s9 (er ++ [⟨y0, y1, y2, y3, y4, y5⟩]) ∧ Below W0.heap.size W0 wx))
  case first =>
    clear v0 v1 v2 v3 v4
    go_region_held3 (fun w' => w'.cell? ⟨w.heap.size + 1, 0, none⟩ = some (.int .i64 y0) ∧ w'.cell? ⟨w.heap.size + 1, 1, none⟩ = some (.int .i64 y1) ∧ w'.cell? ⟨w.heap.size + 1, 2, none⟩ = some (.int .u8 y2) ∧ w'.cell? ⟨w.heap.size + 1, 3, none⟩ = some (.int .i64 y3) ∧ w'.cell? ⟨w.heap.size + 1, 4, none⟩ = some (.string y4) ∧ w'.cell? ⟨w.heap.size + 1, 5, none⟩ = some (.int .i64 y5)) (go_keep)
      (first
        | (refine step_append_rd EE W0.heap.size (by rfl) _ _ 25 27 _ 56 (by rfl) Tryz.underlying25 Tryz.infoRErr rfl (by decide) (.slice (some ⟨W0.heap.size + 1, 0, none⟩) 0 0) (.slice A0 er.length c0) [] er rfl rfl M1.own M1.rd M1.base hl1 ?_; intro v1 w1 hO1 hg1 hb1 hat1; have KR := kept1 (y := ⟨y0, y1, y2, y3, y4, y5⟩) hg1; have hB1 := ((((Below.refl W0.heap.size W0).alloc (Nat.le_refl _) _).alloc (by simp) _).drewN 1).trans hb1; obtain ⟨x0, x1, x2, x3, x4, x5⟩ := CELLS.out w1 hB1; clear M1 M2 M3)
        | (refine step_append_rd EE W0.heap.size (by rfl) _ _ 25 27 _ 56 (by rfl) Tryz.underlying25 Tryz.infoRErr rfl (by decide) (.slice (some ⟨W0.heap.size, 0, none⟩) 0 0) (.slice A0 er.length c0) [] er rfl rfl M2.own M2.rd M2.base hl1 ?_; intro v1 w1 hO1 hg1 hb1 hat1; have KR := kept2 (y := ⟨y0, y1, y2, y3, y4, y5⟩) hg1; have hB1 := ((((Below.refl W0.heap.size W0).alloc (Nat.le_refl _) _).alloc (by simp) _).drewN 1).trans hb1; obtain ⟨x0, x1, x2, x3, x4, x5⟩ := CELLS.out w1 hB1; clear M1 M2 M3)
        | (refine step_append_rd EE W0.heap.size (by rfl) _ _ 25 27 _ 56 (by rfl) Tryz.underlying25 Tryz.infoRErr rfl (by decide) (.slice (some ⟨W0.heap.size, 0, none⟩) 0 0) (.slice A0 er.length c0) [] er rfl rfl M3.own M3.rd M3.base hl1 ?_; intro v1 w1 hO1 hg1 hb1 hat1; have hB1 := (((Below.refl W0.heap.size W0).alloc (Nat.le_refl _) _).drewN 1).trans hb1; obtain ⟨x0, x1, x2, x3, x4, x5⟩ := CELLS.out w1 hB1; have KR := err_block (y := ⟨y0, y1, y2, y3, y4, y5⟩) (World.alloc_heap_new w1 _); have hO1 := hO1.alloc (.cells (EE.f ⟨y0, y1, y2, y3, y4, y5⟩).toArray 27); have hB1 := hB1.alloc hB1.size (.cells (EE.f ⟨y0, y1, y2, y3, y4, y5⟩).toArray 27); clear M1 M2 M3)
        | (refine step_append_rd EE W0.heap.size (by rfl) _ _ 25 27 _ 56 (by rfl) Tryz.underlying25 Tryz.infoRErr rfl (by decide) v1 _ er [⟨y0, y1, y2, y3, y4, y5⟩] (by rfl) (by rfl) hO1 KR hB1.size hl2 ?_; intro v2 w2 hO2 hg2 hb2 hat2; have hB2 := hB1.trans hb2; obtain ⟨x0, x1, x2, x3, x4, x5⟩ := CELLS.out w2 hB2))
    all_goals (go_wp2_with fail; go_meet; exact ⟨hO2, hB2⟩)
  case rest =>
    obtain ⟨hO, hB⟩ := hcut.out
    clear hcut
    have hAll := hO.rd
    obtain ⟨A9, c9, rfl, -⟩ := id hO.rd
    clear hO
    generalize (er ++ [(⟨y0, y1, y2, y3, y4, y5⟩ : Err)]).length = m9 at hAll ⊢
    have vlt : w.heap.size < W0.heap.size := Nat.lt_of_succ_lt mlt
    have hBw : Below w.heap.size w wc := HB0.trans (hB.mono HB0.size)
    have hE : EvS w ⟨n0, n1, n2, n3, ps⟩ A c er (.slice A0 er.length c0) ⟨y0, y1, y2, y3, y4, y5⟩ (.slice A9 m9 c9) wc :=
      ⟨⟨by rw [hB.cell (p := ⟨w.heap.size, _, none⟩) vlt]; exact v0, by rw [hB.cell (p := ⟨w.heap.size, _, none⟩) vlt]; exact v1, by rw [hB.cell (p := ⟨w.heap.size, _, none⟩) vlt]; exact v2, by rw [hB.cell (p := ⟨w.heap.size, _, none⟩) vlt]; exact v3, by rw [hB.cell (p := ⟨w.heap.size, _, none⟩) vlt]; exact v4,
        hv.below hBw, Rd.below he hBw, hG.below hBw, hBw, Nat.lt_of_lt_of_le vlt hB.size⟩, (CELLS.out wc hB).2.1, hAll, Nat.lt_of_lt_of_le mlt hB.size⟩
    clear m0 m1 m2 m3 m4 m5 v0 v1 v2 v3 v4 M1 M2 M3 CELLS HB0 he0 hl1 hl2 mlt vlt hBw hB hAll hv he hx
    have k0 := hE.k0; have k1 := hE.k1; have k2 := hE.k2; have k3 := hE.k3; have k4 := hE.k4; have m1 := hE.m1
    dsimp only at k0 k1 k2 k3 k4 m1
    go_wp2_with (fail)
    refine (ready_any _ _ ⟨n0, n1, n2, n3, ps⟩ er _ hE.vol hE.err).mono ?_
    rintro e W1 ⟨⟨b, rfl, hn⟩, hb⟩
    have hE := hE.below hb
    (clear k0 k1 k2 k3 k4 m1; have k0 := hE.k0; have k1 := hE.k1; have k2 := hE.k2; have k3 := hE.k3; have k4 := hE.k4; have m1 := hE.m1; dsimp only at k0 k1 k2 k3 k4 m1)
    clear hb
    cases b
    · clear hn
      (go_wp2_with (fail); refine (wakes_any _ hE.glob).mono ?_; rintro e W2 ⟨rfl, hb⟩; go_wp2; go_ret; exact ⟨rfl, hE.base.trans (hb.mono hE.base.size)⟩)
    have hn1 := Lib.hid (hn rfl)
    clear hn
    go_wp2_with (fail)
    refine (ready_any _ _ ⟨n0, n1, n2, n3, ps⟩ (er ++ [⟨y0, y1, y2, y3, y4, y5⟩]) _ hE.vol hE.all).mono ?_
    rintro e W2 ⟨⟨b, rfl, hn⟩, hb⟩
    have hE := hE.below hb
    (clear k0 k1 k2 k3 k4 m1; have k0 := hE.k0; have k1 := hE.k1; have k2 := hE.k2; have k3 := hE.k3; have k4 := hE.k4; have m1 := hE.m1; dsimp only at k0 k1 k2 k3 k4 m1)
    clear hb
    cases b
    · clear hn
      (go_wp2_with (fail); refine (wakes_any _ hE.glob).mono ?_; rintro e W2 ⟨rfl, hb⟩; go_wp2; go_ret; exact ⟨rfl, hE.base.trans (hb.mono hE.base.size)⟩)
    have hn2 := Lib.hid (hn rfl)
    clear hn
    obtain ⟨hs, -, ht⟩ := hn2.out.1.small
    have hq2 := hn2.out.1.errs
    have hq1 := hn1.out.1.errs
    have hl1 : er.length ≤ 1000 := Nat.le_trans hq1 (by decide)
    have hl2 : (er ++ [(⟨y0, y1, y2, y3, y4, y5⟩ : Err)]).length ≤ 1000 := Nat.le_trans hq2 (by decide)
    have hq2 : (er ++ [(⟨y0, y1, y2, y3, y4, y5⟩ : Err)]).length ≤ 1000000 := Nat.le_trans hq2 (by decide)
    have hq1 : er.length ≤ 1000000 := Nat.le_trans hq1 (by decide)
    have hf2 : Hid (∀ z ∈ er ++ [(⟨y0, y1, y2, y3, y4, y5⟩ : Err)], z.fits) := Lib.hid fun z hz => Nat.le_trans (ht z hz) (by decide)
    have hf1 : ∀ z ∈ er, z.fits := fun z hz => hf2.out z (List.mem_append_left _ hz)
    have hf2 := hf2.out
    clear ht hl
    by_cases q1 : d < y1
    · have RDM := Lib.hid (read_more (more := ⟨y0, y1, y2, y3, y4, y5⟩) hn2.out.2.1 hn1.out.2.2 hn2.out.2.2 d q1 hd.1 (Int.le_trans hd.2 (by decide)))
      (go_wp2_with (fail); refine (lvolume_any _ ⟨n0, n1, n2, n3, ps⟩ _ hE.vol hs).mono ?_; rintro e WV ⟨vv, rfl, hV, hb⟩; have hE := hE.below hb; (try (have hA := Rd.below hA hb)); clear hb; (clear k0 k1 k2 k3 k4 m1; have k0 := hE.k0; have k1 := hE.k1; have k2 := hE.k2; have k3 := hE.k3; have k4 := hE.k4; have m1 := hE.m1; dsimp only at k0 k1 k2 k3 k4 m1))
      (go_wp2_with (fail); refine (lerrata_any _ er _ hE.err hq1).mono ?_; rintro e WR ⟨vr, rfl, hR, hb⟩; have hR := hR.rd; have hV := hV.below hb; have hE := hE.below hb; (try (have hA := Rd.below hA hb)); clear hb; (clear k0 k1 k2 k3 k4 m1; have k0 := hE.k0; have k1 := hE.k1; have k2 := hE.k2; have k3 := hE.k3; have k4 := hE.k4; have m1 := hE.m1; dsimp only at k0 k1 k2 k3 k4 m1))
      go_wp2_with (fail)
      refine (Read_any _ _ ⟨n0, n1, n2, n3, ps⟩ er d _ hV hs hR hl1 hf1).mono ?_
      rw [RDM.out.1]
      rintro e WA ⟨va, rfl, hA, hb⟩
      have hA := hA.rd
      have hE := hE.below hb
      clear hb hV hR
      (clear k0 k1 k2 k3 k4 m1; have k0 := hE.k0; have k1 := hE.k1; have k2 := hE.k2; have k3 := hE.k3; have k4 := hE.k4; have m1 := hE.m1; dsimp only at k0 k1 k2 k3 k4 m1)
      (go_wp2_with (fail); refine (lvolume_any _ ⟨n0, n1, n2, n3, ps⟩ _ hE.vol hs).mono ?_; rintro e WV ⟨vv, rfl, hV, hb⟩; have hE := hE.below hb; (try (have hA := Rd.below hA hb)); clear hb; (clear k0 k1 k2 k3 k4 m1; have k0 := hE.k0; have k1 := hE.k1; have k2 := hE.k2; have k3 := hE.k3; have k4 := hE.k4; have m1 := hE.m1; dsimp only at k0 k1 k2 k3 k4 m1))
      (go_wp2_with (fail); refine (lerrata_any _ (er ++ [⟨y0, y1, y2, y3, y4, y5⟩]) _ hE.all hq2).mono ?_; rintro e WR ⟨vr, rfl, hR, hb⟩; have hR := hR.rd; have hV := hV.below hb; have hE := hE.below hb; (try (have hA := Rd.below hA hb)); clear hb; (clear k0 k1 k2 k3 k4 m1; have k0 := hE.k0; have k1 := hE.k1; have k2 := hE.k2; have k3 := hE.k3; have k4 := hE.k4; have m1 := hE.m1; dsimp only at k0 k1 k2 k3 k4 m1))
      go_wp2_with (fail)
      refine (Read_any _ _ ⟨n0, n1, n2, n3, ps⟩ (er ++ [(⟨y0, y1, y2, y3, y4, y5⟩ : Err)]) d _ hV hs hR hl2 hf2).mono ?_
      rw [RDM.out.2.1, RDM.out.2.2]
      rintro e WA ⟨va2, rfl, hA2, hb⟩
      have hA := Rd.below hA hb
      have hA2 := hA2.rd
      have hE := hE.below hb
      clear hb hV hR
      (clear k0 k1 k2 k3 k4 m1; have k0 := hE.k0; have k1 := hE.k1; have k2 := hE.k2; have k3 := hE.k3; have k4 := hE.k4; have m1 := hE.m1; dsimp only at k0 k1 k2 k3 k4 m1)
      go_wp2_with (fail)
      refine (parascmp_any _ _ _ _ _ hA hA2).mono ?_
      rintro e WQ ⟨b, rfl, hb1, hb⟩
      obtain rfl : b = true := hb1.2 rfl
      have hE := hE.below hb
      clear hb hb1 hA hA2
      (clear k0 k1 k2 k3 k4 m1; have k0 := hE.k0; have k1 := hE.k1; have k2 := hE.k2; have k3 := hE.k3; have k4 := hE.k4; have m1 := hE.m1; dsimp only at k0 k1 k2 k3 k4 m1)
      by_cases q2 : y1 ≤ n1
      · (go_wp2_with (fail); refine (wakes_any _ hE.glob).mono ?_; rintro e W2 ⟨rfl, hb⟩; go_wp2; go_ret; exact ⟨rfl, hE.base.trans (hb.mono hE.base.size)⟩)
      · have PLM := Lib.hid (places_more (more := ⟨y0, y1, y2, y3, y4, y5⟩) hn2.out.2.1 hn1.out.2.2 hn2.out.2.2 (Int.not_le.1 q2))
        (go_wp2_with (fail); refine (lvolume_any _ ⟨n0, n1, n2, n3, ps⟩ _ hE.vol hs).mono ?_; rintro e WV ⟨vv, rfl, hV, hb⟩; have hE := hE.below hb; (try (have hA := Rd.below hA hb)); clear hb; (clear k0 k1 k2 k3 k4 m1; have k0 := hE.k0; have k1 := hE.k1; have k2 := hE.k2; have k3 := hE.k3; have k4 := hE.k4; have m1 := hE.m1; dsimp only at k0 k1 k2 k3 k4 m1))
        (go_wp2_with (fail); refine (lerrata_any _ er _ hE.err hq1).mono ?_; rintro e WR ⟨vr, rfl, hR, hb⟩; have hR := hR.rd; have hV := hV.below hb; have hE := hE.below hb; (try (have hA := Rd.below hA hb)); clear hb; (clear k0 k1 k2 k3 k4 m1; have k0 := hE.k0; have k1 := hE.k1; have k2 := hE.k2; have k3 := hE.k3; have k4 := hE.k4; have m1 := hE.m1; dsimp only at k0 k1 k2 k3 k4 m1))
        go_wp2_with (fail)
        refine (Print_any _ _ ⟨n0, n1, n2, n3, ps⟩ er _ hV hs hR hl1 hf1).mono ?_
        rw [PLM.out.1]
        rintro e WP ⟨vp, rfl, hA, hb⟩
        have hA := hA.rd
        have hE := hE.below hb
        clear hb hV hR
        (clear k0 k1 k2 k3 k4 m1; have k0 := hE.k0; have k1 := hE.k1; have k2 := hE.k2; have k3 := hE.k3; have k4 := hE.k4; have m1 := hE.m1; dsimp only at k0 k1 k2 k3 k4 m1)
        (go_wp2_with (fail); refine (lvolume_any _ ⟨n0, n1, n2, n3, ps⟩ _ hE.vol hs).mono ?_; rintro e WV ⟨vv, rfl, hV, hb⟩; have hE := hE.below hb; (try (have hA := Rd.below hA hb)); clear hb; (clear k0 k1 k2 k3 k4 m1; have k0 := hE.k0; have k1 := hE.k1; have k2 := hE.k2; have k3 := hE.k3; have k4 := hE.k4; have m1 := hE.m1; dsimp only at k0 k1 k2 k3 k4 m1))
        (go_wp2_with (fail); refine (lerrata_any _ (er ++ [⟨y0, y1, y2, y3, y4, y5⟩]) _ hE.all hq2).mono ?_; rintro e WR ⟨vr, rfl, hR, hb⟩; have hR := hR.rd; have hV := hV.below hb; have hE := hE.below hb; (try (have hA := Rd.below hA hb)); clear hb; (clear k0 k1 k2 k3 k4 m1; have k0 := hE.k0; have k1 := hE.k1; have k2 := hE.k2; have k3 := hE.k3; have k4 := hE.k4; have m1 := hE.m1; dsimp only at k0 k1 k2 k3 k4 m1))
        go_wp2_with (fail)
        refine (Print_any _ _ ⟨n0, n1, n2, n3, ps⟩ (er ++ [(⟨y0, y1, y2, y3, y4, y5⟩ : Err)]) _ hV hs hR hl2 hf2).mono ?_
        rw [PLM.out.2.1, PLM.out.2.2]
        rintro e WP ⟨vp2, rfl, hA2, hb⟩
        have hA := Rd.below hA hb
        have hA2 := hA2.rd
        have hE := hE.below hb
        clear hb hV hR
        (clear k0 k1 k2 k3 k4 m1; have k0 := hE.k0; have k1 := hE.k1; have k2 := hE.k2; have k3 := hE.k3; have k4 := hE.k4; have m1 := hE.m1; dsimp only at k0 k1 k2 k3 k4 m1)
        go_wp2_with (fail)
        refine (placescmp_any _ _ _ _ _ hA hA2).mono ?_
        rintro e WQ ⟨b, rfl, hb1, hb⟩
        obtain rfl : b = true := hb1.2 rfl
        have hE := hE.below hb
        clear hb hb1 hA hA2
        (clear k0 k1 k2 k3 k4 m1; have k0 := hE.k0; have k1 := hE.k1; have k2 := hE.k2; have k3 := hE.k3; have k4 := hE.k4; have m1 := hE.m1; dsimp only at k0 k1 k2 k3 k4 m1)
        (go_wp2_with (fail); refine (wakes_any _ hE.glob).mono ?_; rintro e W2 ⟨rfl, hb⟩; go_wp2; go_ret; exact ⟨rfl, hE.base.trans (hb.mono hE.base.size)⟩)
    · by_cases q2 : y1 ≤ n1
      · (go_wp2_with (fail); refine (wakes_any _ hE.glob).mono ?_; rintro e W2 ⟨rfl, hb⟩; go_wp2; go_ret; exact ⟨rfl, hE.base.trans (hb.mono hE.base.size)⟩)
      · have PLM := Lib.hid (places_more (more := ⟨y0, y1, y2, y3, y4, y5⟩) hn2.out.2.1 hn1.out.2.2 hn2.out.2.2 (Int.not_le.1 q2))
        (go_wp2_with (fail); refine (lvolume_any _ ⟨n0, n1, n2, n3, ps⟩ _ hE.vol hs).mono ?_; rintro e WV ⟨vv, rfl, hV, hb⟩; have hE := hE.below hb; (try (have hA := Rd.below hA hb)); clear hb; (clear k0 k1 k2 k3 k4 m1; have k0 := hE.k0; have k1 := hE.k1; have k2 := hE.k2; have k3 := hE.k3; have k4 := hE.k4; have m1 := hE.m1; dsimp only at k0 k1 k2 k3 k4 m1))
        (go_wp2_with (fail); refine (lerrata_any _ er _ hE.err hq1).mono ?_; rintro e WR ⟨vr, rfl, hR, hb⟩; have hR := hR.rd; have hV := hV.below hb; have hE := hE.below hb; (try (have hA := Rd.below hA hb)); clear hb; (clear k0 k1 k2 k3 k4 m1; have k0 := hE.k0; have k1 := hE.k1; have k2 := hE.k2; have k3 := hE.k3; have k4 := hE.k4; have m1 := hE.m1; dsimp only at k0 k1 k2 k3 k4 m1))
        go_wp2_with (fail)
        refine (Print_any _ _ ⟨n0, n1, n2, n3, ps⟩ er _ hV hs hR hl1 hf1).mono ?_
        rw [PLM.out.1]
        rintro e WP ⟨vp, rfl, hA, hb⟩
        have hA := hA.rd
        have hE := hE.below hb
        clear hb hV hR
        (clear k0 k1 k2 k3 k4 m1; have k0 := hE.k0; have k1 := hE.k1; have k2 := hE.k2; have k3 := hE.k3; have k4 := hE.k4; have m1 := hE.m1; dsimp only at k0 k1 k2 k3 k4 m1)
        (go_wp2_with (fail); refine (lvolume_any _ ⟨n0, n1, n2, n3, ps⟩ _ hE.vol hs).mono ?_; rintro e WV ⟨vv, rfl, hV, hb⟩; have hE := hE.below hb; (try (have hA := Rd.below hA hb)); clear hb; (clear k0 k1 k2 k3 k4 m1; have k0 := hE.k0; have k1 := hE.k1; have k2 := hE.k2; have k3 := hE.k3; have k4 := hE.k4; have m1 := hE.m1; dsimp only at k0 k1 k2 k3 k4 m1))
        (go_wp2_with (fail); refine (lerrata_any _ (er ++ [⟨y0, y1, y2, y3, y4, y5⟩]) _ hE.all hq2).mono ?_; rintro e WR ⟨vr, rfl, hR, hb⟩; have hR := hR.rd; have hV := hV.below hb; have hE := hE.below hb; (try (have hA := Rd.below hA hb)); clear hb; (clear k0 k1 k2 k3 k4 m1; have k0 := hE.k0; have k1 := hE.k1; have k2 := hE.k2; have k3 := hE.k3; have k4 := hE.k4; have m1 := hE.m1; dsimp only at k0 k1 k2 k3 k4 m1))
        go_wp2_with (fail)
        refine (Print_any _ _ ⟨n0, n1, n2, n3, ps⟩ (er ++ [(⟨y0, y1, y2, y3, y4, y5⟩ : Err)]) _ hV hs hR hl2 hf2).mono ?_
        rw [PLM.out.2.1, PLM.out.2.2]
        rintro e WP ⟨vp2, rfl, hA2, hb⟩
        have hA := Rd.below hA hb
        have hA2 := hA2.rd
        have hE := hE.below hb
        clear hb hV hR
        (clear k0 k1 k2 k3 k4 m1; have k0 := hE.k0; have k1 := hE.k1; have k2 := hE.k2; have k3 := hE.k3; have k4 := hE.k4; have m1 := hE.m1; dsimp only at k0 k1 k2 k3 k4 m1)
        go_wp2_with (fail)
        refine (placescmp_any _ _ _ _ _ hA hA2).mono ?_
        rintro e WQ ⟨b, rfl, hb1, hb⟩
        obtain rfl : b = true := hb1.2 rfl
        have hE := hE.below hb
        clear hb hb1 hA hA2
        (clear k0 k1 k2 k3 k4 m1; have k0 := hE.k0; have k1 := hE.k1; have k2 := hE.k2; have k3 := hE.k3; have k4 := hE.k4; have m1 := hE.m1; dsimp only at k0 k1 k2 k3 k4 m1)
        (go_wp2_with (fail); refine (wakes_any _ hE.glob).mono ?_; rintro e W2 ⟨rfl, hb⟩; go_wp2; go_ret; exact ⟨rfl, hE.base.trans (hb.mono hE.base.size)⟩)
end Go.Proofs.YtjkmdpejcgepkaaGreatDoor
