/- Volume: for the program. -/
import Derived.Test.YtjkmdpejcgepkaaGreatDoorE8
import Derived.Test.YtjkmdpejcgepkaaGreatDoorCB
namespace Go.Proofs.YtjkmdpejcgepkaaGreatDoor
open Go.RowKit
/-- a part's cells: its day, and a slice -/
structure PS2 where
  day : Int
  sl : Sl
  deriving Inhabited
def EPt : Enc PS2 := ⟨fun x => [.int .i64 x.day, x.sl.val], 2, fun _ => rfl, fun x u hu => by simp at hu; rcases hu with rfl | rfl <;> rfl, by decide⟩
theorem Tryz.infoPart : (Tryz.prog.info? 79).map (fun i => (i.zero, i.size, i.bytes)) = some (some (.agg #[.int .i64 0, .slice none 0 0]), 2, 32) := by kernel_rfl
def OwnParts (w : World) (base : Nat) (ss : List PS2) (ps : List Part) : Prop := ss.length = ps.length ∧ ∀ (j : Nat) (s : PS2) (p : Part), ss[j]? = some s → ps[j]? = some p → s.day = p.day ∧ Own EP 67 w base s.sl.val p.paras
theorem OwnParts.below {w w' : World} {base : Nat} {ss : List PS2} {ps : List Part} (h : OwnParts w base ss ps) (hb : Below w.heap.size w w') : OwnParts w' base ss ps :=
  ⟨h.1, fun j s p h1 h2 => ⟨(h.2 j s p h1 h2).1, (h.2 j s p h1 h2).2.below hb⟩⟩
theorem OwnParts.grown {w w' : World} {base g : Nat} {ss : List PS2} {ps : List Part} {cs : Array Value} {T : TypeId} {fr : Nat × Nat} (h : OwnParts w base ss ps) (hg : w.grownBy w' (some g)) (hb : w.heap[g]? = some (.cells cs T fr)) (ht : T ≠ 67) : OwnParts w' base ss ps :=
  ⟨h.1, fun j s p h1 h2 => ⟨(h.2 j s p h1 h2).1, (h.2 j s p h1 h2).2.grown hg (.inr ((h.2 j s p h1 h2).2.ne_block hb ht))⟩⟩
theorem OwnParts.rd {w : World} {base : Nat} {ss : List PS2} {ps : List Part} {v : Value} (h : OwnParts w base ss ps) (ho : Own EPt 79 w base v ss) : RdParts w v ps := by
  obtain ⟨A, c, rfl, hc, hm, hr⟩ := ho.rd
  rw [h.1] at hc hm hr ⊢
  refine ⟨A, c, rfl, hc, hm, fun h0 => ?_⟩
  obtain ⟨b, off, rfl, hb, hrow⟩ := hr h0
  refine ⟨b, off, rfl, hb, fun j hj => ?_⟩
  have hj' : j < ss.length := by rw [h.1]; exact hj
  obtain ⟨e1, e2⟩ := h.2 j ss[j] ps[j] (List.getElem?_eq_getElem hj') (List.getElem?_eq_getElem hj)
  have c0 := hrow j hj' 0 _ rfl; have c1 := hrow j hj' 1 _ rfl
  simp only [Nat.add_zero, show EPt.k = 2 from rfl] at c0 c1
  exact ⟨by rw [← e1]; exact c0, _, c1, e2.rd⟩
/-- a block that another type's own row can't be stays -/
theorem Own.stays {α : Type} {E : Enc α} {e T : TypeId} {w w' : World} {base b : Nat} {v : Value} {xs : List α} {cs : Array Value} {fr : Nat × Nat} (h : Own E e w base v xs) (hb : w.heap[b]? = some (.cells cs T fr)) (ht : T ≠ e) (hg : w.grownBy w' v.ownBlock) : w'.heap[b]? = some (.cells cs T fr) := by
  rw [hg.block b (Array.getElem?_eq_some_iff.1 hb).1 (fun e' => h.ne_block hb ht e'.symm)]; exact hb
theorem Own.apart {α β : Type} {E : Enc α} {E' : Enc β} {e e' : TypeId} {w : World} {base base' : Nat} {v v' : Value} {xs : List α} {xs' : List β} (h : Own E e w base v xs) (h' : Own E' e' w base' v' xs') (ht : e' ≠ e) : v.ownBlock = none ∨ v.ownBlock ≠ v'.ownBlock := by
  rcases h'.2 with ⟨rfl, _⟩ | ⟨g, cap, cur, rfl, hb, hh, _⟩
  · cases hv : v.ownBlock with
    | none => exact .inl rfl
    | some b => exact .inr (by simp [Value.ownBlock])
  · exact .inr (h.ne_block hh ht)
theorem OwnParts.push {w : World} {base : Nat} {ss : List PS2} {ps : List Part} {s : PS2} {p : Part} (h : OwnParts w base ss ps) (hd : s.day = p.day) (ho : Own EP 67 w base s.sl.val p.paras) : OwnParts w base (ss ++ [s]) (ps ++ [p]) := by
  refine ⟨by simp [h.1], fun j s1 p1 h1 h2 => ?_⟩
  by_cases hj : j < ss.length
  · rw [List.getElem?_append_left hj] at h1
    rw [List.getElem?_append_left (by rw [← h.1]; exact hj)] at h2
    exact h.2 j s1 p1 h1 h2
  · rw [List.getElem?_append_right (by omega)] at h1
    rw [List.getElem?_append_right (by rw [← h.1]; omega), ← h.1] at h2
    have h0 : j - ss.length = 0 := by
      have := (List.getElem?_eq_some_iff.1 h1).1
      simp at this; omega
    rw [h0] at h1 h2
    simp at h1 h2
    subst h1; subst h2
    exact ⟨hd, ho⟩
theorem parts_step {wr w1 : World} {base tb cb : Nat} {cs cs' X : Array Value} {fr fr' : Nat × Nat} {ov v1 : Value} {ss : List PS2} {ps : List Part} {s : PS2} {p : Part}
    (hT : wr.heap[tb]? = some (.cells cs 37 fr)) (hC : wr.heap[cb]? = some (.cells cs' 37 fr')) (hne : cb ≠ tb) (hO : Own EPt 79 wr base ov ss) (hP : OwnParts wr base ss ps) (hd : s.day = p.day) (hq : Own EP 67 wr base s.sl.val p.paras)
    (h1 : Own EPt 79 w1 base v1 (ss ++ [s])) (hg : (wr.alloc (.cells X 79)).grownBy w1 ov.ownBlock) :
    w1.heap[tb]? = some (.cells cs 37 fr) ∧ (w1.setCell ⟨tb, 4, none⟩ v1).heap[tb]? = some (.cells (cs.setIfInBounds 4 v1) 37 fr) ∧ (w1.setCell ⟨tb, 4, none⟩ v1).heap[cb]? = some (.cells cs' 37 fr') ∧
      Own EPt 79 (w1.setCell ⟨tb, 4, none⟩ v1) base v1 (ss ++ [s]) ∧ OwnParts (w1.setCell ⟨tb, 4, none⟩ v1) base (ss ++ [s]) (ps ++ [p]) := by
  have hO' := hO.alloc (.cells X 79)
  have lt : ∀ {b : Nat} {o : Obj}, wr.heap[b]? = some o → b < wr.heap.size := fun h => (Array.getElem?_eq_some_iff.1 h).1
  have st : ∀ {b : Nat} {cs : Array Value} {fr : Nat × Nat}, wr.heap[b]? = some (.cells cs 37 fr) → w1.heap[b]? = some (.cells cs 37 fr) := fun h => hO'.stays (by rw [Below.heap_alloc _ _ _ (lt h)]; exact h) (by decide) hg
  have hT1 := st hT
  refine ⟨hT1, heap_set _ hT1, by rw [Below.heap_setCell _ _ _ _ hne]; exact st hC, h1.grown (Lib.grownBy_setCell _ _ _ _) (.inr (h1.ne_block hT1 (by decide))), ?_⟩
  have mv : ∀ {v : Value} {xs : List Para}, Own EP 67 wr base v xs → Own EP 67 (w1.setCell ⟨tb, 4, none⟩ v1) base v xs := fun h => by
    have h2 := (h.alloc (.cells X 79)).grown hg ((h.alloc (.cells X 79)).apart hO' (by decide))
    exact h2.grown (Lib.grownBy_setCell _ _ _ _) (.inr (h2.ne_block hT1 (by decide)))
  exact OwnParts.push ⟨hP.1, fun j s p h1 h2 => ⟨(hP.2 j s p h1 h2).1, mv (hP.2 j s p h1 h2).2⟩⟩ hd (mv hq)
def VolPost (w : World) (x : Vol) (e : Ending) (w' : World) : Prop := ∃ v, e = .returned v ∧ IsVol w' v x ∧ Below w.heap.size w w'
set_option maxHeartbeats 4000000 in
set_option maxRecDepth 100000 in
theorem lvolume_any (v : Value) (x : Vol) (w : World) (hv : IsVol w v x) (hs : x.small) : Calls Tryz.prog 14 #[v] w (VolPost w x) := by
  obtain ⟨sv, rfl, A, c, rfl, hc, hm, hr⟩ := id hv
  have hps : x.parts.length ≤ 100 := hs.1
  have HPS : Hid (∀ j (_ : j < x.parts.length), x.parts[j].paras.length ≤ 1000) := Lib.hid fun j hj => (hs.2 _ (List.getElem_mem hj)).1
  clear hv hs
  obtain ⟨n0, n1, n2, n3, ps⟩ := x
  dsimp only [Vol.val] at hc hm hr hps HPS ⊢
  have hvc : Hid (∀ W, Below (w.heap.size + 1) (w.alloc (.cells #[.int .i64 n0, .int .i64 n1, .int .i64 n2, .int .i64 n3, .slice A ps.length c] 24)) W → w.heap.size < W.heap.size ∧ W.cell? ⟨w.heap.size, 4, none⟩ = some (.slice A ps.length c)) := Lib.hid fun W h3 => by
    have hz := h3.size
    rw [World.size_alloc] at hz
    refine ⟨hz, ?_⟩; rw [h3.cell (p := ⟨w.heap.size, _, none⟩) (Nat.lt_succ_self _)]; simp [go_sem]
  go_enter Tryz.func14, Tryz.ntmps14
  go_wp2
  obtain ⟨W0, hW0⟩ : ∃ W0, ((w.alloc (.cells #[.int .i64 n0, .int .i64 n1, .int .i64 n2, .int .i64 n3, .slice A ps.length c] 24)).alloc (.cells #[.int .i64 0, .int .i64 0, .int .i64 0, .int .i64 0, .slice none 0 0] 37)).alloc (.cells #[.int .i64 n0, .int .i64 n1, .int .i64 n2, .int .i64 n3, .slice none 0 0] 37) = W0 := ⟨_, rfl⟩
  have hB0 : Below (w.heap.size + 1) (w.alloc (.cells #[.int .i64 n0, .int .i64 n1, .int .i64 n2, .int .i64 n3, .slice A ps.length c] 24)) W0 := by
    rw [← hW0]; exact ((Below.refl _ _).alloc (by simp) _).alloc (by simp) _
  have hB00 : Below w.heap.size w W0 := ((Below.refl _ _).alloc (Nat.le_refl _) _).trans (hB0.mono (Nat.le_succ _))
  have hT0 : W0.heap[w.heap.size + 1 + 1]? = some (.cells #[.int .i64 n0, .int .i64 n1, .int .i64 n2, .int .i64 n3, .slice none 0 0] 37 (0, 0)) := by
    have h := World.alloc_heap_new ((w.alloc (.cells #[.int .i64 n0, .int .i64 n1, .int .i64 n2, .int .i64 n3, .slice A ps.length c] 24)).alloc (.cells #[.int .i64 0, .int .i64 0, .int .i64 0, .int .i64 0, .slice none 0 0] 37)) (.cells #[.int .i64 n0, .int .i64 n1, .int .i64 n2, .int .i64 n3, .slice none 0 0] 37)
    rw [World.size_alloc, World.size_alloc] at h; rw [← hW0]; exact h
  have hC0 : W0.heap[w.heap.size + 1]? = some (.cells #[.int .i64 0, .int .i64 0, .int .i64 0, .int .i64 0, .slice none 0 0] 37 (0, 0)) := by
    have h := World.alloc_heap_new (w.alloc (.cells #[.int .i64 n0, .int .i64 n1, .int .i64 n2, .int .i64 n3, .slice A ps.length c] 24)) (.cells #[.int .i64 0, .int .i64 0, .int .i64 0, .int .i64 0, .slice none 0 0] 37)
    rw [World.size_alloc] at h; rw [← hW0, Below.heap_alloc _ _ _ (by simp)]; exact h
  rw [hW0]
  clear hW0
  go_loopg [4, 5, 6, 7] ps.length (fun gg s4 s5 s6 s7 wr => ∃ kk : Nat, kk ≤ ps.length ∧ ps.length - kk ≤ gg ∧ s4 = .int .i64 kk ∧ Aside (∃ ov ss, wr.heap[w.heap.size + 1 + 1]? = some (.cells #[.int .i64 n0, .int .i64 n1, .int .i64 n2, .int .i64 n3, ov] 37 (0, 0)) ∧ wr.heap[w.heap.size + 1]? = some (.cells #[.int .i64 0, .int .i64 0, .int .i64 0, .int .i64 0, .slice none 0 0] 37 (0, 0)) ∧ Own EPt 79 wr (w.heap.size + 1) ov ss ∧ OwnParts wr (w.heap.size + 1) ss (ps.take kk) ∧ Below (w.heap.size + 1) (w.alloc (.cells #[.int .i64 n0, .int .i64 n1, .int .i64 n2, .int .i64 n3, .slice A ps.length c] 24)) wr))
  case atStart => exact ⟨0, Nat.zero_le _, by omega, rfl, ⟨_, [], hT0, hC0, Own.nil _ _ _ _, ⟨rfl, fun j s p h1 h2 => by simp at h1⟩, hB0⟩⟩
  case round =>
    obtain ⟨kk, hkk, hg, rfl, A2⟩ := hrel
    obtain ⟨ov, ss, hT, hC, hO, hP, hBw⟩ := A2.out
    clear A2 hT0 hC0
    obtain ⟨x0, x1⟩ := hvc.out wr hBw
    by_cases hlt : kk < ps.length
    · have hBww : Below w.heap.size w wr := ((Below.refl w.heap.size w).alloc (Nat.le_refl _) (.cells #[.int .i64 n0, .int .i64 n1, .int .i64 n2, .int .i64 n3, .slice A ps.length c] 24)).trans (hBw.mono (Nat.le_succ _))
      obtain ⟨b, off, rfl, hb, hr1⟩ := hr (by omega)
      obtain ⟨d1, pv, d2, d3⟩ := (hr1.below hb hBww) kk hlt
      have hbW : b < wr.heap.size := Nat.lt_of_lt_of_le hb hBww.size
      have hpl := HPS.out kk hlt
      have htk : Hid (ps.take (kk + 1) = ps.take kk ++ [ps[kk]]) := Lib.hid (List.take_succ_eq_append_getElem hlt)
      have HT := Lib.hid hT; have HC := Lib.hid hC; have HO := Lib.hid hO; have HP := Lib.hid hP; have HB := Lib.hid hBw; have HBB := Lib.hid hBww
      clear hr1 hT hC hO hP hBw hBww
      generalize ps[kk] = p at d1 d2 d3 hpl htk
      obtain ⟨dd, p1⟩ := p
      dsimp only at d1 d2 d3 hpl
      obtain ⟨A2, c2, rfl, hc2, hm2, hr2⟩ := id d3
      have i1 : (0 : Int) ≤ ↑kk := by omega
      have i2 : (kk : Int) < (ps.length : Int) := by omega
      rename World => wo
      go_wp2
      obtain ⟨W1, hW1⟩ : ∃ W1, wo.alloc (.cells #[.int .i64 dd, .slice none 0 0] 79) = W1 := ⟨_, rfl⟩
      have hB1 : Below wo.heap.size wo W1 := by rw [← hW1]; exact (Below.refl _ _).alloc (Nat.le_refl _) _
      have hP1 : W1.heap[wo.heap.size]? = some (.cells #[.int .i64 dd, .slice none 0 0] 79 (0, 0)) := by rw [← hW1]; exact World.alloc_heap_new wo (.cells #[.int .i64 dd, .slice none 0 0] 79)
      rw [hW1]
      clear hW1 hr
      go_loopg [6, 7] p1.length (fun gg s6 s7 wr => ∃ mm : Nat, mm ≤ p1.length ∧ p1.length - mm ≤ gg ∧ s6 = .int .i64 mm ∧ Aside (∃ pv, wr.heap[wo.heap.size]? = some (.cells #[.int .i64 dd, pv] 79 (0, 0)) ∧ Own EP 67 wr (wo.heap.size + 1) pv (p1.take mm) ∧ Below wo.heap.size wo wr))
      case atStart => exact ⟨0, Nat.zero_le _, by omega, rfl, _, hP1, Own.nil _ _ _ _, hB1⟩
      case round =>
        obtain ⟨mm, hmm, hg2, rfl, A3⟩ := hrel
        obtain ⟨qv, hQ, hO2, hB2⟩ := A3.out
        clear A3 hP1 hB1
        have y1 : wr.cell? ⟨w.heap.size, 4, none⟩ = some (.slice (some ⟨b, off, none⟩) ps.length c) := by rw [hB2.cell (p := ⟨w.heap.size, 4, none⟩) x0]; exact x1
        have y2 : wr.cell? ⟨b, off + kk * 2 + 1, none⟩ = some (.slice A2 p1.length c2) := by rw [hB2.cell (p := ⟨b, off + kk * 2 + 1, none⟩) hbW]; exact d2
        have y3 : wr.cell? ⟨wo.heap.size, 1, none⟩ = some qv := by simp [World.cell?, hQ]
        have hzr : wo.heap.size < wr.heap.size := (Array.getElem?_eq_some_iff.1 hQ).1
        have hbr : b < wr.heap.size := Nat.lt_trans hbW hzr
        have hwr : w.heap.size < wr.heap.size := Nat.lt_trans x0 hzr
        have HB2 := Lib.hid hB2
        by_cases hlt2 : mm < p1.length
        · obtain ⟨b2, off2, rfl, hb2, hrow2⟩ := hr2 (by omega)
          have z1 : wr.cell? ⟨b2, off2 + mm * 2, none⟩ = some (.int .i64 p1[mm].anchor) := by rw [hB2.cell (p := ⟨b2, _, none⟩) hb2]; exact hrow2 mm hlt2 0 _ rfl
          have z2 : wr.cell? ⟨b2, off2 + mm * 2 + 1, none⟩ = some (.string p1[mm].text) := by rw [hB2.cell (p := ⟨b2, _, none⟩) hb2]; exact hrow2 mm hlt2 1 _ rfl
          have hb2r : b2 < wr.heap.size := Nat.lt_trans hb2 hzr
          have htk2 : Hid (p1.take (mm + 1) = p1.take mm ++ [p1[mm]]) := Lib.hid (List.take_succ_eq_append_getElem hlt2)
          have hll : (p1.take mm).length ≤ 1000 := by rw [List.length_take]; omega
          have HQ := Lib.hid hQ
          clear hrow2 hr2 hB2 hQ d3 hvc
          generalize p1.take mm = r0 at hO2 htk2 hll
          generalize p1[mm] = y at z1 z2 htk2
          obtain ⟨a0, t0⟩ := y
          dsimp only at z1 z2
          have j1 : (0 : Int) ≤ ↑mm := by omega
          have j2 : (mm : Int) < (p1.length : Int) := by omega
          have hO2' := hO2.alloc (.cells #[.int .i64 a0, .string t0] 50)
          have hbs : wo.heap.size + 1 ≤ (wr.alloc (.cells #[.int .i64 a0, .string t0] 50)).heap.size := by simp; omega
          have hQK : Hid (∀ W, Below (wo.heap.size + 1) (wr.alloc (.cells #[.int .i64 a0, .string t0] 50)) W → W.cell? ⟨wo.heap.size, 1, none⟩ = some qv ∧ W.frozen? ⟨wo.heap.size, 1, none⟩ = false ∧ Hid (W.heap[wo.heap.size]? = some (.cells #[.int .i64 dd, qv] 79 (0, 0)))) := Lib.hid fun W h => by
            have h := h.block wo.heap.size (Nat.lt_succ_self _)
            rw [Below.heap_alloc _ _ _ hzr, HQ.out] at h
            exact ⟨by simp [World.cell?, h], by simp [World.frozen?, h], Lib.hid h⟩
          have hlb : (r0.length + 1) * 24 ≤ 140737488355328 := by omega
          go_wp2_with (at_builtin; refine wp_append_one EP (wo.heap.size + 1) rfl _ _ 31 67 67 _ 24 (EP.f ⟨a0, t0⟩).toArray rfl Tryz.underlying31 Tryz.infoPara rfl (by decide) qv r0 ⟨a0, t0⟩ rfl rfl (by rw [World.size_alloc]; rfl) hO2' hbs hlb ?_; intro v1 w1 hO3 hg3 hb3 hat3; have hz3 : wo.heap.size < w1.heap.size := Nat.le_trans hbs hb3.size; obtain ⟨hc3, hf3, HBL⟩ := hQK.out w1 hb3; obtain ⟨A9, c9, rfl, -⟩ := hO3.rd)
          go_roundg (p1.length - (mm + 1))
          case measure => exact measU hg2 hlt2
          case rel =>
            refine ⟨mm + 1, hlt2, Nat.le_refl _, by go_num, .slice A9 (r0.length + 1) c9, ?_, ?_, ?_⟩
            · exact heap_set _ HBL.out
            · rw [htk2.out]
              have hO4 : Own EP 67 w1 (wo.heap.size + 1) (.slice A9 (r0.length + 1) c9) (r0 ++ [⟨a0, t0⟩]) := by simpa using hO3
              exact hO4.grown (Lib.grownBy_setCell _ _ _ _) (by
                rcases hO4.2 with ⟨h, _⟩ | ⟨g, _, _, h, hb, _⟩
                · exact .inl (by rw [h]; rfl)
                · exact .inr (by rw [h]; simp [Value.ownBlock]; omega))
            · exact (HB2.out.trans ((Below.refl _ _).alloc (Nat.le_of_lt hzr) _ |>.trans (hb3.mono (Nat.le_succ _)))).setCell (Nat.le_refl _) _
        · have : mm = p1.length := Nat.le_antisymm hmm (Nat.le_of_not_lt hlt2)
          subst this
          rw [List.take_length] at hO2
          clear hr2 hvc
          obtain ⟨A8, c8, rfl, -⟩ := id hO2.rd
          have htb : w.heap.size + 1 + 1 < wo.heap.size := (Array.getElem?_eq_some_iff.1 HT.out).1
          have hcb : w.heap.size + 1 < wo.heap.size := (Array.getElem?_eq_some_iff.1 HC.out).1
          have hT2 : wr.heap[w.heap.size + 1 + 1]? = some (.cells #[.int .i64 n0, .int .i64 n1, .int .i64 n2, .int .i64 n3, ov] 37 (0, 0)) := by rw [hB2.block _ htb]; exact HT.out
          have hC2 : wr.heap[w.heap.size + 1]? = some (.cells #[.int .i64 0, .int .i64 0, .int .i64 0, .int .i64 0, .slice none 0 0] 37 (0, 0)) := by rw [hB2.block _ hcb]; exact HC.out
          have hOw : Own EPt 79 wr (w.heap.size + 1) ov ss := HO.out.below hB2
          have hPw : OwnParts wr (w.heap.size + 1) ss (ps.take kk) := HP.out.below hB2
          have hqw : Own EP 67 wr (w.heap.size + 1) (.slice A8 p1.length c8) p1 := hO2.lower (by omega)
          have c4 : wr.cell? ⟨w.heap.size + 1 + 1, 4, none⟩ = some ov := by simp [World.cell?, hT2]
          have y0 : wr.cell? ⟨wo.heap.size, 0, none⟩ = some (.int .i64 dd) := by simp [World.cell?, hQ]
          have hsl : ss.length ≤ 100 := by rw [hPw.1, List.length_take]; omega
          have hlb : (ss.length + 1) * 32 ≤ 140737488355328 := by omega
          have hbs : w.heap.size + 1 ≤ wr.heap.size := Nat.le_of_lt (Nat.lt_trans hcb hzr)
          have STEP := fun w1 v1 => parts_step (w1 := w1) (v1 := v1) (X := (EPt.f ⟨dd, ⟨A8, p1.length, c8⟩⟩).toArray) (s := ⟨dd, ⟨A8, p1.length, c8⟩⟩) (p := ⟨dd, p1⟩) hT2 hC2 (by omega) hOw hPw rfl hqw
          have STEP := Lib.hid STEP
          have CF : Hid (∀ w1 v1, Own EPt 79 w1 (w.heap.size + 1) v1 (ss ++ [⟨dd, ⟨A8, p1.length, c8⟩⟩]) → (wr.alloc (.cells (EPt.f ⟨dd, ⟨A8, p1.length, c8⟩⟩).toArray 79)).grownBy w1 ov.ownBlock → w1.cell? ⟨w.heap.size + 1 + 1, 4, none⟩ = some ov ∧ w1.frozen? ⟨w.heap.size + 1 + 1, 4, none⟩ = false) := Lib.hid fun w1 v1 h1 h2 => by
            have h := (STEP.out w1 v1 h1 h2).1
            exact ⟨by simp [World.cell?, h], by simp [World.frozen?, h]⟩
          have HTT : Hid (Below (w.heap.size + 1) (w.alloc (.cells #[.int .i64 n0, .int .i64 n1, .int .i64 n2, .int .i64 n3, .slice (some ⟨b, off, none⟩) ps.length c] 24)) wr) := Lib.hid (HB.out.trans (hB2.mono (by omega)))
          clear hT2 hC2 hPw hqw hO2 hB2 hQ HO HP HT HC HB
          go_wp2_with (at_builtin; refine wp_append_one EPt (w.heap.size + 1) rfl _ _ 35 79 79 _ 32 (EPt.f ⟨dd, ⟨A8, p1.length, c8⟩⟩).toArray rfl Tryz.underlying35 Tryz.infoPart rfl (by decide) ov ss ⟨dd, ⟨A8, p1.length, c8⟩⟩ rfl rfl rfl hOw hbs hlb ?_; intro v1 w1 hO3 hg3 hb3 hat3; obtain ⟨cf1, cf2⟩ := CF.out w1 v1 hO3 hg3; have SS := Lib.hid (STEP.out w1 v1 hO3 hg3); obtain ⟨A7, c7, rfl, -⟩ := hO3.rd)
          go_roundg (ps.length - (kk + 1))
          case measure => exact measU hg hlt
          case rel =>
            have s1 := SS.out.2
            simp only [List.length_append, List.length_cons, List.length_nil, Nat.zero_add] at s1
            exact ⟨kk + 1, hlt, Nat.le_refl _, by go_num, _, _, s1.1, s1.2.1, s1.2.2.1, by rw [htk.out]; exact s1.2.2.2, (HTT.out.trans hb3).setCell (Nat.le_succ _) _⟩
    · have : kk = ps.length := Nat.le_antisymm hkk (Nat.le_of_not_lt hlt)
      subst this
      rw [List.take_length] at hP
      obtain ⟨A6, c6, rfl, -⟩ := id hO.rd
      have IV : Hid (∀ W', wr.grownBy W' (some (w.heap.size + 1)) → IsVol W' (.agg #[.int .i64 n0, .int .i64 n1, .int .i64 n2, .int .i64 n3, .slice A6 ss.length c6]) ⟨n0, n1, n2, n3, ps⟩) := Lib.hid fun W' hg => ⟨_, rfl, (hP.grown hg hC (by decide)).rd (hO.grown hg (.inr (hO.ne_block hC (by decide))))⟩
      clear hr hO hP
      have t0 : wr.cell? ⟨w.heap.size + 1 + 1, 0, none⟩ = some (.int .i64 n0) := by simp [World.cell?, hT]
      have t1 : wr.cell? ⟨w.heap.size + 1 + 1, 1, none⟩ = some (.int .i64 n1) := by simp [World.cell?, hT]
      have t2 : wr.cell? ⟨w.heap.size + 1 + 1, 2, none⟩ = some (.int .i64 n2) := by simp [World.cell?, hT]
      have t3 : wr.cell? ⟨w.heap.size + 1 + 1, 3, none⟩ = some (.int .i64 n3) := by simp [World.cell?, hT]
      have t4 : wr.cell? ⟨w.heap.size + 1 + 1, 4, none⟩ = some (.slice A6 ss.length c6) := by simp [World.cell?, hT]
      have k0 : wr.cell? ⟨w.heap.size + 1, 0, none⟩ = some (.int .i64 0) := by simp [World.cell?, hC]
      have k1 : wr.cell? ⟨w.heap.size + 1, 1, none⟩ = some (.int .i64 0) := by simp [World.cell?, hC]
      have k2 : wr.cell? ⟨w.heap.size + 1, 2, none⟩ = some (.int .i64 0) := by simp [World.cell?, hC]
      have k3 : wr.cell? ⟨w.heap.size + 1, 3, none⟩ = some (.int .i64 0) := by simp [World.cell?, hC]
      have k4 : wr.cell? ⟨w.heap.size + 1, 4, none⟩ = some (.slice none 0 0) := by simp [World.cell?, hC]
      have f0 : wr.frozen? ⟨w.heap.size + 1, 0, none⟩ = false := by simp [World.frozen?, hC]
      have f1 : wr.frozen? ⟨w.heap.size + 1, 1, none⟩ = false := by simp [World.frozen?, hC]
      have f2 : wr.frozen? ⟨w.heap.size + 1, 2, none⟩ = false := by simp [World.frozen?, hC]
      have f3 : wr.frozen? ⟨w.heap.size + 1, 3, none⟩ = false := by simp [World.frozen?, hC]
      have f4 : wr.frozen? ⟨w.heap.size + 1, 4, none⟩ = false := by simp [World.frozen?, hC]
      have HC := Lib.hid hC
      have HB := Lib.hid hBw
      clear hT hC hBw
      go_wp2
      obtain ⟨W', hW'⟩ : ∃ W', ((((wr.setCell ⟨w.heap.size + 1, 0, none⟩ (.int .i64 n0)).setCell ⟨w.heap.size + 1, 1, none⟩ (.int .i64 n1)).setCell ⟨w.heap.size + 1, 2, none⟩ (.int .i64 n2)).setCell ⟨w.heap.size + 1, 3, none⟩ (.int .i64 n3)).setCell ⟨w.heap.size + 1, 4, none⟩ (.slice A6 ss.length c6) = W' := ⟨_, rfl⟩
      have hg : wr.grownBy W' (some (w.heap.size + 1)) := by
        rw [← hW']
        exact ((((Lib.grownBy_setCell _ _ _ _).trans (Lib.grownBy_setCell _ _ _ _)).trans (Lib.grownBy_setCell _ _ _ _)).trans (Lib.grownBy_setCell _ _ _ _)).trans (Lib.grownBy_setCell _ _ _ _)
      have hh : W'.heap[w.heap.size + 1]? = some (.cells #[.int .i64 n0, .int .i64 n1, .int .i64 n2, .int .i64 n3, .slice A6 ss.length c6] 37 (0, 0)) := by
        rw [← hW']
        exact heap_set _ (heap_set _ (heap_set _ (heap_set _ (heap_set _ HC.out))))
      have hb : Below w.heap.size w W' := by
        rw [← hW']
        exact (((((((Below.refl w.heap.size w).alloc (Nat.le_refl _) (.cells #[.int .i64 n0, .int .i64 n1, .int .i64 n2, .int .i64 n3, .slice A ps.length c] 24)).trans (HB.out.mono (Nat.le_succ _))).setCell (Nat.le_succ _) _).setCell (Nat.le_succ _) _).setCell (Nat.le_succ _) _).setCell (Nat.le_succ _) _).setCell (Nat.le_succ _) _
      rw [hW']
      have r0 : W'.cell? ⟨w.heap.size + 1, 0, none⟩ = some (.int .i64 n0) := by simp [World.cell?, hh]
      have r1 : W'.cell? ⟨w.heap.size + 1, 1, none⟩ = some (.int .i64 n1) := by simp [World.cell?, hh]
      have r2 : W'.cell? ⟨w.heap.size + 1, 2, none⟩ = some (.int .i64 n2) := by simp [World.cell?, hh]
      have r3 : W'.cell? ⟨w.heap.size + 1, 3, none⟩ = some (.int .i64 n3) := by simp [World.cell?, hh]
      have r4 : W'.cell? ⟨w.heap.size + 1, 4, none⟩ = some (.slice A6 ss.length c6) := by simp [World.cell?, hh]
      refine bodyPost_ret (v := .agg #[.int .i64 n0, .int .i64 n1, .int .i64 n2, .int .i64 n3, .slice A6 ss.length c6]) (by simp [results, Tryz.results14, go_sem, r0, r1, r2, r3, r4]) rfl ⟨_, rfl, IV.out W' hg, hb⟩
end Go.Proofs.YtjkmdpejcgepkaaGreatDoor
