/- What errata do at a place of an edition. -/
import Derived.Test.YtjkmdpejcgepkaaGreatDoorB4
import Derived.Deep.RegionHeld3
namespace Go.Proofs.YtjkmdpejcgepkaaGreatDoor
open Go.RowKit
/-- no block of an edition -/
def Plain (o : Obj) : Prop := ∀ cs t fr, o = .cells cs t fr → t ≠ 95 ∧ t ≠ 93 ∧ t ≠ 90
/-- what changes of an edition keep -/
def KeepD (w w' : World) : Prop := w.heap.size ≤ w'.heap.size ∧ ∀ (k : Nat) (o : Obj), Plain o → w.heap[k]? = some o → w'.heap[k]? = some o
theorem KeepD.refl (w : World) : KeepD w w := ⟨Nat.le_refl _, fun _ _ _ h => h⟩
theorem KeepD.trans {a b c : World} (h : KeepD a b) (k : KeepD b c) : KeepD a c := ⟨Nat.le_trans h.1 k.1, fun i o p q => k.2 i o p (h.2 i o p q)⟩
theorem KeepD.below {w w' : World} (h : Below w.heap.size w w') : KeepD w w' := ⟨h.size, fun k o _ hk => by rw [h.block k (Array.getElem?_eq_some_iff.1 hk).1]; exact hk⟩
theorem KeepD.alloc (w : World) (o : Obj) : KeepD w (w.alloc o) := KeepD.below ((Below.refl _ _).alloc (Nat.le_refl _) _)
theorem KeepD.grown {w w' : World} {row : Option Nat} (h : w.grownBy w' row) (hr : ∀ k, row = some k → ∃ cs t fr, w.heap[k]? = some (.cells cs t fr) ∧ (t = 95 ∨ t = 93 ∨ t = 90)) : KeepD w w' :=
  ⟨h.size, fun k o hp hk => by
    rw [h.block k (Array.getElem?_eq_some_iff.1 hk).1 (fun e => by
      obtain ⟨cs, t, fr, h1, h2⟩ := hr k e.symm
      rw [hk] at h1
      injection h1 with h1
      obtain ⟨p1, p2, p3⟩ := hp cs t fr h1
      rcases h2 with h2 | h2 | h2
      · exact p1 h2
      · exact p2 h2
      · exact p3 h2)]
    exact hk⟩
theorem KeepD.keepT {w w' : World} (h : KeepD w w') : KeepT w w' := fun k cs t fr ht hk => h.2 k _ (fun cs' t' fr' e => by cases e; rcases ht with rfl | rfl <;> decide) hk
theorem KeepD.from {w w' : World} (h : KeepD w w') (B : Nat) : KeepsFrom B w w' := ⟨h.1, fun k o _ hk ho => h.2 k o (fun cs t fr e => by subst e; simp [Obj.isCells] at ho) hk⟩
theorem KeepD.boxed {w w' : World} (h : KeepD w w') {b : Nat} {t : TypeId} {v : Value} (hb : Boxed w b t v) (ht : t ≠ 95 ∧ t ≠ 93 ∧ t ≠ 90) : Boxed w' b t v := h.2 b _ (fun cs t' fr e => by cases e; exact ht) hb
/-- a store into an own row -/
theorem Own.store {α : Type} {E : Enc α} {e : TypeId} {w : World} {base g : Nat} {v : Value} {xs : List α} (h : Own E e w base v xs) (hg : v.ownBlock = some g) (j : Nat) (hj : j < xs.length) (i : Nat) (hi : i < E.k) (y : α) (u : Value) (hy : E.f y = (E.f xs[j]).set i u) :
    Own E e (w.setCell ⟨g, j * E.k + i, none⟩ u) base v (xs.set j y) := by
  have hc := fun q u hu => World.ownsRow.cells h hg q u hu
  rcases id h.2 with ⟨rfl, hn⟩ | ⟨g', cap, cur, rfl, hb, hh, h1, h2, h3, h4⟩
  · omega
  · have : g' = g := by cases hg; rfl
    subst this
    have hlen : (xs.set j y).length = xs.length := List.length_set
    have hs : (w.setCell ⟨g', j * E.k + i, none⟩ u).heap[g']? = some (.cells (cur.setIfInBounds (j * E.k + i) u) e (0, 0)) := by simp [World.setCell, Array.getElem?_modify, hh]
    have hle : xs.length * E.k ≤ cur.size := by rw [h3]; exact Nat.mul_le_mul_right _ h1
    have hq : j * E.k + i < xs.length * E.k := Nat.lt_of_lt_of_le (by have := Nat.mul_le_mul_right E.k (Nat.succ_le_of_lt hj); rw [Nat.succ_mul] at this; omega) (Nat.le_refl _)
    rw [← hlen]
    refine Own.of_flat hb hs (by rw [hlen]; exact h1) h2 (by simp [h3]) ?_
    intro q x hx
    have hql : q < xs.length * E.k := by have := (List.getElem?_eq_some_iff.1 hx).1; rwa [flat_length, hlen] at this
    have hp := E.pos
    have a1 : q / E.k < xs.length := Nat.div_lt_of_lt_mul (by rw [Nat.mul_comm]; exact hql)
    have a2 : q % E.k < E.k := Nat.mod_lt _ hp
    have a3 : q / E.k * E.k + q % E.k = q := by rw [Nat.mul_comm]; exact Nat.div_add_mod q E.k
    rw [← a3, flat_get E _ _ _ (by rw [hlen]; exact a1) a2] at hx
    have hold : ∀ z, (E.f xs[q / E.k])[q % E.k]? = some z → cur[q]? = some z := fun z hz => by
      have := hc q z (by rw [← a3, flat_get E xs _ _ a1 a2]; exact hz)
      have ha : (⟨g', 0, none⟩ : Addr).add q = ⟨g', q, none⟩ := by unfold Addr.add; split <;> simp_all
      rw [ha] at this
      simpa [World.cell?, hh] using this
    simp only [World.cell?, hs, Option.isSome_none, Bool.false_eq_true, if_false]
    by_cases hqe : q = j * E.k + i
    · have e1 : q / E.k = j := by rw [hqe, Nat.mul_comm, Nat.mul_add_div hp, Nat.div_eq_of_lt hi, Nat.add_zero]
      have e2 : q % E.k = i := by rw [hqe, Nat.mul_comm, Nat.mul_add_mod, Nat.mod_eq_of_lt hi]
      simp only [e1, e2, List.getElem_set_self] at hx
      rw [hy, List.getElem?_set_self (by rw [E.len]; exact hi)] at hx
      rw [hqe, Array.getElem?_setIfInBounds_self_of_lt (by omega)]
      exact hx
    · rw [Array.getElem?_setIfInBounds_ne (Ne.symm hqe)]
      by_cases e1 : q / E.k = j
      · have e2 : q % E.k ≠ i := fun e2 => hqe (by rw [← a3, e1, e2])
        simp only [e1, List.getElem_set_self] at hx
        rw [hy, List.getElem?_set_ne (Ne.symm e2)] at hx
        refine hold x ?_
        simp only [e1]; exact hx
      · rw [List.getElem_set_ne (Ne.symm e1)] at hx
        exact hold x hx
theorem KeepD.store {w : World} {b o : Nat} {v : Value} {cs : Array Value} {t : TypeId} {fr : Nat × Nat} (h : w.heap[b]? = some (.cells cs t fr)) (ht : t = 95 ∨ t = 93 ∨ t = 90) : KeepD w (w.setCell ⟨b, o, none⟩ v) :=
  KeepD.grown (Lib.grownBy_setCell w b o v) (fun k e => by cases e; exact ⟨cs, t, fr, h, ht⟩)
theorem Own.cells_at {α : Type} {E : Enc α} {e : TypeId} {w : World} {base : Nat} {v : Value} {xs : List α} (h : Own E e w base v xs) (h0 : 0 < xs.length) :
    ∃ g cap cur, v = .slice (some ⟨g, 0, none⟩) xs.length cap ∧ base ≤ g ∧ w.heap[g]? = some (.cells cur e (0, 0)) ∧ ∀ (j : Nat) (hj : j < xs.length) (i : Nat) (u : Value), (E.f xs[j])[i]? = some u → w.cell? ⟨g, j * E.k + i, none⟩ = some u := by
  have hc := fun g (hg : v.ownBlock = some g) => World.ownsRow.cells h hg
  rcases id h.2 with ⟨_, hn⟩ | ⟨g, cap, cur, rfl, hb, hh, _⟩
  · omega
  · refine ⟨g, cap, cur, rfl, hb, hh, fun j hj i u hu => ?_⟩
    have hi : i < E.k := by rw [← E.len xs[j]]; exact (List.getElem?_eq_some_iff.1 hu).1
    have := hc g rfl (j * E.k + i) u (by rw [flat_get E xs j i hj hi]; exact hu)
    have ha : (⟨g, 0, none⟩ : Addr).add (j * E.k + i) = ⟨g, j * E.k + i, none⟩ := by unfold Addr.add; split <;> simp_all
    rwa [ha] at this
structure EdView (w : World) (base eb : Nat) (rows : List (List Entry)) (i j : Nat) (r : List Entry) (e : Entry) (ob oc gb gc : Nat) : Prop where
  ed : w.cell? ⟨eb, 5, none⟩ = some (.slice (some ⟨ob, 0, none⟩) rows.length oc)
  edlt : eb < w.heap.size
  oblt : ob < w.heap.size
  gblt : gb < w.heap.size
  row : w.cell? ⟨ob, i, none⟩ = some (.slice (some ⟨gb, 0, none⟩) r.length gc)
  ofr : w.frozen? ⟨ob, i, none⟩ = false
  obeb : ob ≠ eb
  ebgb : eb ≠ gb
  obgb : ob ≠ gb
  ilt : i < rows.length
  jlt : j < r.length
  base_gb : base ≤ gb
  base_ob : base ≤ ob
  c0 : w.cell? ⟨gb, j * 3, none⟩ = some (.int .i64 e.anchor)
  c1 : w.cell? ⟨gb, j * 3 + 1, none⟩ = some (.string e.text)
  c2 : w.cell? ⟨gb, j * 3 + 2, none⟩ = some (.bool e.gone)
  f1 : w.frozen? ⟨gb, j * 3 + 1, none⟩ = false
  f2 : w.frozen? ⟨gb, j * 3 + 2, none⟩ = false
  own : Own EN 95 w base (.slice (some ⟨gb, 0, none⟩) r.length gc) r
  gbc : ∃ cs, w.heap[gb]? = some (.cells cs 95 (0, 0))
  obc : ∃ cs, w.heap[ob]? = some (.cells cs 93 (0, 0))
  set : ∀ (k : Nat) (u : Value) (e' : Entry), k < 3 → EN.f e' = (EN.f e).set k u → IsEd (w.setCell ⟨gb, j * 3 + k, none⟩ u) base eb (rows.set i (r.set j e'))
  put : ∀ (w1 : World) (v1 : Value) (r' : List Entry), w.grownBy w1 (some gb) → Own EN 95 w1 base v1 r' → (v1.ownBlock = some gb ∨ ∀ b, v1.ownBlock = some b → w.heap.size ≤ b) → IsEd (w1.setCell ⟨ob, i, none⟩ v1) base eb (rows.set i r')
theorem IsEd.view {w : World} {base eb : Nat} {rows : List (List Entry)} (h : IsEd w base eb rows) {i j : Nat} {r : List Entry} {e : Entry} (hi : rows[i]? = some r) (hj : r[j]? = some e) :
    ∃ ob oc gb gc, EdView w base eb rows i j r e ob oc gb gc := by
  obtain ⟨cs, ov, ss, h0, h1, h2, h3, h4, h5, h6, h7⟩ := h
  obtain ⟨hil, hi'⟩ := List.getElem?_eq_some_iff.1 hi
  obtain ⟨hjl, hj'⟩ := List.getElem?_eq_some_iff.1 hj
  obtain ⟨ob, oc, ocur, rfl, hob, hoh, hocell⟩ := h4.cells_at (by omega)
  have hsi : ss[i]? = some ss[i] := List.getElem?_eq_getElem (by omega)
  have hOi := h6 i ss[i] r hsi hi
  obtain ⟨gb, gc, gcur, hgv, hgb, hgh, hgcell⟩ := hOi.cells_at (by omega)
  have ho := hocell i (by omega) 0 _ rfl
  simp only [show ES.k = 1 from rfl, Nat.mul_one, Nat.add_zero, hgv] at ho
  have g0 := hgcell j hjl 0 _ rfl; have g1 := hgcell j hjl 1 _ rfl; have g2 := hgcell j hjl 2 _ rfl
  simp only [show EN.k = 3 from rfl, Nat.add_zero, hj'] at g0 g1 g2
  have hge : gb ≠ eb := by rintro rfl; rw [hgh] at h1; injection h1 with h1; injection h1 with _ h1; revert h1; decide
  have hgo : gb ≠ ob := by rintro rfl; rw [hgh] at hoh; injection hoh with hoh; injection hoh with _ hoh; revert hoh; decide
  have hoe : ob ≠ eb := by rintro rfl; rw [hoh] at h1; injection h1 with h1; injection h1 with _ h1; revert h1; decide
  refine ⟨ob, oc, gb, gc, ?_⟩
  refine { ed := ?_, edlt := (Array.getElem?_eq_some_iff.1 h1).1, oblt := (Array.getElem?_eq_some_iff.1 hoh).1, gblt := (Array.getElem?_eq_some_iff.1 hgh).1, row := ho, ofr := by simp [World.frozen?, hoh], obeb := hoe, ebgb := Ne.symm hge, obgb := Ne.symm hgo, ilt := hil, jlt := hjl, base_gb := hgb, base_ob := hob, c0 := g0, c1 := g1, c2 := g2, f1 := by simp [World.frozen?, hgh], f2 := by simp [World.frozen?, hgh], own := by rw [← hgv]; exact hOi, gbc := ⟨_, hgh⟩, obc := ⟨_, hoh⟩, set := ?_, put := ?_ }
  · simp [World.cell?, h1, h3, h5]
  · intro k u e' hk he
    have hg : w.grownBy (w.setCell ⟨gb, j * 3 + k, none⟩ u) (some gb) := Lib.grownBy_setCell w gb _ u
    have hO2 := hOi.store (g := gb) (by rw [hgv]; rfl) j hjl k hk e' u (by rw [hj']; exact he)
    refine ⟨cs, _, ss, h0, ?_, h2, h3, h4.grown hg (.inr (by simpa [Value.ownBlock] using Ne.symm hgo)), by rw [List.length_set]; exact h5, ?_, h7⟩
    · rw [hg.block eb (Array.getElem?_eq_some_iff.1 h1).1 (by simpa using Ne.symm hge)]; exact h1
    · intro q s r2 hs hr
      by_cases hq : q = i
      · subst hq
        rw [List.getElem?_set_self hil] at hr
        cases hr
        rw [hsi] at hs; cases hs
        exact hO2
      · rw [List.getElem?_set_ne (Ne.symm hq)] at hr
        refine (h6 q s r2 hs hr).grown hg ?_
        right
        exact h7 i q ss[i] s gb (Ne.symm hq) hsi hs (by rw [hgv]; rfl)
  · intro w1 v1 r' hg hO1 hfr
    have h1' : w1.heap[eb]? = some (.cells cs 90 (0, 0)) := by
      rw [hg.block eb (Array.getElem?_eq_some_iff.1 h1).1 (by simpa using Ne.symm hge)]; exact h1
    have hoh' : w1.heap[ob]? = some (.cells ocur 93 (0, 0)) := by
      rw [hg.block ob (Array.getElem?_eq_some_iff.1 hoh).1 (by simpa using Ne.symm hgo)]; exact hoh
    have h4' := h4.grown hg (.inr (by simpa [Value.ownBlock] using Ne.symm hgo))
    obtain ⟨s1, hs1⟩ : ∃ s1 : Sl, v1 = s1.val := by
      obtain ⟨A, c, e1, _⟩ := hO1.rd
      exact ⟨⟨A, r'.length, c⟩, e1⟩
    have hg2 : w1.grownBy (w1.setCell ⟨ob, i, none⟩ v1) (some ob) := Lib.grownBy_setCell w1 ob i v1
    have h4'' : Own ES 93 (w1.setCell ⟨ob, i, none⟩ v1) base (.slice (some ⟨ob, 0, none⟩) ss.length oc) (ss.set i s1) := by
      have := h4'.store (g := ob) rfl i (by omega) 0 (by decide) s1 v1 (by rw [hs1]; rfl)
      simpa only [show ES.k = 1 from rfl, Nat.mul_one, Nat.add_zero] using this
    have hnew : ∀ b, v1.ownBlock = some b → b ≠ ob := fun b hb => by
      have : ∃ cu, w1.heap[b]? = some (.cells cu 95 (0, 0)) := by
        rcases id hO1.2 with ⟨e0, _⟩ | ⟨g', _, cu, e0, _, hh, _⟩
        · rw [e0] at hb; cases hb
        · rw [e0] at hb; cases hb; exact ⟨cu, hh⟩
      obtain ⟨cu, hcu⟩ := this
      rintro rfl
      rw [hcu] at hoh'; injection hoh' with hoh'; injection hoh' with _ hoh'; revert hoh'; decide
    refine ⟨cs, _, ss.set i s1, h0, ?_, h2, h3, h4'', by rw [List.length_set, List.length_set]; exact h5, ?_, ?_⟩
    · rw [hg2.block eb (Array.getElem?_eq_some_iff.1 h1').1 (by simpa using Ne.symm hoe)]; exact h1'
    · intro q s r2 hs hr
      by_cases hq : q = i
      · subst hq
        rw [List.getElem?_set_self hil] at hr
        rw [List.getElem?_set_self (by omega)] at hs
        cases hr; cases hs
        rw [← hs1]
        refine hO1.grown hg2 ?_
        cases hb : v1.ownBlock with
        | none => exact .inl rfl
        | some b => right; simpa using hnew b hb
      · rw [List.getElem?_set_ne (Ne.symm hq)] at hr hs
        have hO3 := h6 q s r2 hs hr
        have hO4 := hO3.grown hg (.inr (h7 i q ss[i] s gb (Ne.symm hq) hsi hs (by rw [hgv]; rfl)))
        refine hO4.grown hg2 ?_
        cases hb : s.val.ownBlock with
        | none => exact .inl rfl
        | some b =>
          right
          obtain ⟨cu, hcu⟩ : ∃ cu, w.heap[b]? = some (.cells cu 95 (0, 0)) := by
            rcases id hO3.2 with ⟨e0, _⟩ | ⟨g', _, cu, e0, _, hh, _⟩
            · rw [e0] at hb; cases hb
            · rw [e0] at hb; cases hb; exact ⟨cu, hh⟩
          intro e0
          injection e0 with e0
          subst e0
          rw [hcu] at hoh; injection hoh with hoh; injection hoh with _ hoh; revert hoh; decide
    · intro p q s t b hpq hs ht hb hb2
      have hdist : ∀ (q : Nat) (t : Sl), q ≠ i → ss[q]? = some t → t.val.ownBlock = some b → v1.ownBlock ≠ some b := by
        intro q t hq ht hb3 hb4
        rcases hfr with hfr | hfr
        · rw [hfr] at hb4; cases hb4
          exact h7 i q ss[i] t gb (Ne.symm hq) hsi ht (by rw [hgv]; rfl) hb3
        · have hlt := (h6 q t (rows[q]'(by have := (List.getElem?_eq_some_iff.1 ht).1; omega)) ht (List.getElem?_eq_getElem _)).lt b hb3
          have := hfr b hb4
          omega
      by_cases hp : p = i
      · subst hp
        rw [List.getElem?_set_self (by omega)] at hs; cases hs
        rw [List.getElem?_set_ne hpq] at ht
        rw [← hs1] at hb
        exact hdist q t (Ne.symm hpq) ht hb2 hb
      · rw [List.getElem?_set_ne (Ne.symm hp)] at hs
        by_cases hq : q = i
        · subst hq
          rw [List.getElem?_set_self (by omega)] at ht; cases ht
          rw [← hs1] at hb2
          exact hdist p s hp hs hb hb2
        · rw [List.getElem?_set_ne (Ne.symm hq)] at ht
          exact h7 p q s t b hpq hs ht hb hb2
theorem edChange_any (w : World) (base eb : Nat) (rows : List (List Entry)) (i j : Nat) (r : List Entry) (e : Entry) (x : Err) (h : IsEd w base eb rows) (hi : rows[i]? = some r) (hj : r[j]? = some e) (hbase : base ≤ w.heap.size) (hsm : rows.length ≤ 1000 ∧ r.length ≤ 100000) :
    Calls Tryz.prog 79 #[.pointer (some ⟨eb, 0, none⟩), .int .i64 i, .int .i64 j, x.val] w fun en w' => en = .returned (.tuple #[]) ∧ IsEd w' base eb (if e.gone then rows else rows.set i (r.set j { e with text := x.text })) ∧ KeepD w w' ∧ Below base w w' := by
  obtain ⟨ob, oc, gb, gc, V⟩ := h.view hi hj
  obtain ⟨y0, y1, y2, y3, y4, y5⟩ := x
  dsimp only [Err.val]
  have k0 := V.ed; have k1 := V.row; have k2 := V.c0; have k3 := V.c1; have k4 := V.c2; have k5 := V.f1; have l0 := V.edlt; have l1 := V.oblt; have l2 := V.gblt; have l3 := V.ilt; have l4 := V.jlt
  have hset := V.set
  obtain ⟨cs, hgbc⟩ := V.gbc
  have hbg := V.base_gb
  have hs := Lib.hid hsm
  clear hsm
  have HH := Lib.hid h
  cases hg : e.gone
  · rw [hg] at k4
    go_enter Tryz.func79, Tryz.ntmps79
    go_wp2
    go_end0
    have h1 := hset 1 (.string y4) { e with text := y4 } (by decide) rfl
    rw [hg] at h1
    have hA := (Below.refl base w).setCell (p := ⟨gb, j * 3 + 1, none⟩) hbg (.string y4)
    exact ⟨rfl, h1.below ((Below.refl _ _).alloc (Nat.le_refl _) _), (KeepD.store hgbc (.inl rfl)).trans (KeepD.alloc _ _), hA.alloc (by rw [World.size_setCell]; exact hbase) _⟩
  · rw [hg] at k4
    go_enter Tryz.func79, Tryz.ntmps79
    go_wp2
    go_end0
    exact ⟨rfl, HH.out.below ((Below.refl _ _).alloc (Nat.le_refl _) _), KeepD.alloc _ _, (Below.refl base w).alloc hbase _⟩
theorem edRemove_any (w : World) (base eb : Nat) (rows : List (List Entry)) (i j : Nat) (r : List Entry) (e : Entry) (x : Err) (h : IsEd w base eb rows) (hi : rows[i]? = some r) (hj : r[j]? = some e) (hbase : base ≤ w.heap.size) (hsm : rows.length ≤ 1000 ∧ r.length ≤ 100000) :
    Calls Tryz.prog 80 #[.pointer (some ⟨eb, 0, none⟩), .int .i64 i, .int .i64 j, x.val] w fun en w' => en = .returned (.tuple #[]) ∧ IsEd w' base eb (rows.set i (r.set j { e with gone := true })) ∧ KeepD w w' ∧ Below base w w' := by
  obtain ⟨ob, oc, gb, gc, V⟩ := h.view hi hj
  obtain ⟨y0, y1, y2, y3, y4, y5⟩ := x
  dsimp only [Err.val]
  have k0 := V.ed; have k1 := V.row; have k2 := V.c0; have k3 := V.c1; have k4 := V.c2; have k5 := V.f2; have l0 := V.edlt; have l1 := V.oblt; have l2 := V.gblt; have l3 := V.ilt; have l4 := V.jlt
  have hset := V.set
  obtain ⟨cs, hgbc⟩ := V.gbc
  have hbg := V.base_gb
  have hs := Lib.hid hsm
  clear hsm
  go_enter Tryz.func80, Tryz.ntmps80
  go_wp2
  go_end0
  have h1 := hset 2 (.bool true) { e with gone := true } (by decide) rfl
  have hA := (Below.refl base w).setCell (p := ⟨gb, j * 3 + 2, none⟩) hbg (.bool true)
  exact ⟨rfl, h1.below ((Below.refl _ _).alloc (Nat.le_refl _) _), (KeepD.store hgbc (.inl rfl)).trans (KeepD.alloc _ _), hA.alloc (by rw [World.size_setCell]; exact hbase) _⟩
/-- the moves of a drawn region, at a list of operations -/
theorem wpAnyH_takeL {P : Program} {md : Region.Mode} {Q : Exit → Act → World → Prop} {S : World → Prop} {l : List Oper} (i : Nat) {oi : Oper} {v : Value} {fuel : Nat} {listed : Array Bool} {a : Act} {w : World} (hi : l[i]? = some oi)
    (hs : Region.noSelect l.toArray = true) (hf : Region.free md l.toArray listed i = true) (hr : (Region.ready md l.toArray listed).contains i = true)
    (hQ : ∀ c a w, Q (.panic c) (a.put oi.dst v) w → Q (.panic c) a w) (hy : Region.wanted oi (yielded l.toArray a.tmps) = true ∧ ∀ w, S w → (execOp a.eval oi).run P w = .ok (.value v) w) (hS : S w)
    (h : wpAnyH P md l.toArray Q S fuel (listed.setIfInBounds i true) (a.put oi.dst v) w) : wpAnyH P md l.toArray Q S (fuel + 1) listed a w :=
  wpAnyH_take (by simpa using hi) hs hf hr hQ (Or.inl hy) hS h
theorem AllReadyH_consL {P : Program} {md : Region.Mode} {Q : Exit → Act → World → Prop} {S : World → Prop} {l : List Oper} {fuel : Nat} {listed : Array Bool} {a : Act} {w : World} {i : Nat} {o : Oper} {rs : List Nat} (ho : l[i]? = some o)
    (h : ∀ K' : Act → World → Prop, Shut (∀ a w, S w → (S w → wpAnyH P md l.toArray Q S fuel (listed.setIfInBounds i true) a w) → K' a w) → if Region.wanted o (yielded l.toArray a.tmps) = true then Oper.wp P o a w K' Q else K' (a.put o.dst undef) w)
    (hs : AllReadyH P md l.toArray Q S fuel listed a w rs) : AllReadyH P md l.toArray Q S fuel listed a w (i :: rs) :=
  AllReadyH.cons (by simpa using ho) h hs
set_option maxHeartbeats 4000000 in
theorem edAdd_any (w : World) (base eb : Nat) (rows : List (List Entry)) (i j : Nat) (r : List Entry) (e : Entry) (x : Err) (h : IsEd w base eb rows) (hi : rows[i]? = some r) (hj : r[j]? = some e) (hbase : base ≤ w.heap.size) (hsm : rows.length ≤ 1000 ∧ r.length ≤ 100000) :
    Calls Tryz.prog 81 #[.pointer (some ⟨eb, 0, none⟩), .int .i64 i, .int .i64 j, x.val] w fun en w' => en = .returned (.tuple #[]) ∧ IsEd w' base eb (rows.set i (insAt r (j + 1) ⟨x.new, x.text, false⟩)) ∧ KeepD w w' ∧ Below base w w' := by
  obtain ⟨ob, oc, gb, gc, V⟩ := h.view hi hj
  obtain ⟨y0, y1, y2, y3, y4, y5⟩ := x
  dsimp only [Err.val]
  have k0 := V.ed; have k1 := V.row; have l0 := V.edlt; have l1 := V.oblt; have l2 := V.gblt; have l3 := V.ilt; have l4 := V.jlt
  have hs := Lib.hid hsm
  have hj1 : j + 1 ≤ r.length := l4
  have hjw : IntKind.i64.wrap ((j : Int) + 1) = (j : Int) + 1 := by rw [IntKind.wrap_i64]; omega
  clear hsm
  go_enter Tryz.func81, Tryz.ntmps81
  go_wp2
  have hB0 : Below w.heap.size w (w.alloc (.cells #[.int .i64 y0, .int .i64 y1, .int .u8 y2, .int .i64 y3, .string y4, .int .i64 y5] 77)) := (Below.refl _ _).alloc (Nat.le_refl _) _
  have q4 : (w.alloc (.cells #[.int .i64 y0, .int .i64 y1, .int .u8 y2, .int .i64 y3, .string y4, .int .i64 y5] 77)).cell? ⟨w.heap.size, 4, none⟩ = some (.string y4) := by simp [go_sem]
  have q5 : (w.alloc (.cells #[.int .i64 y0, .int .i64 y1, .int .u8 y2, .int .i64 y3, .string y4, .int .i64 y5] 77)).cell? ⟨w.heap.size, 5, none⟩ = some (.int .i64 y5) := by simp [go_sem]
  have k0' := (hB0.cell (p := ⟨eb, 5, none⟩) l0).trans k0
  have k1' := (hB0.cell (p := ⟨ob, i, none⟩) l1).trans k1
  have hz0 : (w.alloc (.cells #[.int .i64 y0, .int .i64 y1, .int .u8 y2, .int .i64 y3, .string y4, .int .i64 y5] 77)).heap.size = w.heap.size + 1 := World.size_alloc _ _
  generalize w.alloc (.cells #[.int .i64 y0, .int .i64 y1, .int .u8 y2, .int .i64 y3, .string y4, .int .i64 y5] 77) = w1 at *
  have l0' : eb < w1.heap.size := by omega
  have l1' : ob < w1.heap.size := by omega
  have lz : w.heap.size < w1.heap.size := by omega
  have hbase1 : base ≤ w1.heap.size := by omega
  have HV := Lib.hid V
  have NB := Lib.hid V.obeb
  have nb1 := V.ebgb; have nb2 := V.obgb
  have hgbz : gb < w.heap.size := V.gblt
  have HB := Lib.hid hB0
  have hO0 := V.own.below hB0
  have hO2 : Own EN 95 ((w1.alloc (.cells #[.int .i64 y5, .string y4, .bool false] 95)).drew) base (.slice (some ⟨gb, 0, none⟩) r.length gc) r := hO0.alloc _
  have hins := insert_any base (.slice (some ⟨gb, 0, none⟩) r.length gc) r (j + 1) ⟨y5, y4, false⟩ ((w1.alloc (.cells #[.int .i64 y5, .string y4, .bool false] 95)).drew) (w.heap.size + 1) hO2 hj1 hs.out.2 (by show base ≤ (w1.alloc _).heap.size; rw [World.size_alloc]; omega)
    (by show (w1.alloc _).heap[w.heap.size + 1]? = _; rw [← hz0]; exact World.alloc_heap_new w1 _) (by simp [Value.ownBlock]; omega)
  rw [Int.natCast_succ] at hins
  have HK : Hid (KeepD w ((w1.alloc (.cells #[.int .i64 y5, .string y4, .bool false] 95)).drew)) := Lib.hid ((KeepD.below hB0).trans (KeepD.alloc _ _))
  have HBA : Hid (Below w.heap.size w ((w1.alloc (.cells #[.int .i64 y5, .string y4, .bool false] 95)).drew)) := Lib.hid ((hB0.alloc (by omega) _).drewN 1)
  have hzz : ((w1.alloc (.cells #[.int .i64 y5, .string y4, .bool false] 95)).drew).heap.size = w.heap.size + 2 := by show (w1.alloc _).heap.size = _; rw [World.size_alloc, hz0]
  have ce : ∀ q, q < w1.heap.size → ∀ o, ((w1.alloc (.cells #[.int .i64 y5, .string y4, .bool false] 95)).drew).cell? ⟨q, o, none⟩ = w1.cell? ⟨q, o, none⟩ := fun q hq o => World.cell?_alloc_past (w := w1) _ q o hq
  have CE := Lib.hid ce
  have FR : Hid (∀ w2, ((w1.alloc (.cells #[.int .i64 y5, .string y4, .bool false] 95)).drew).grownBy w2 (Value.slice (some ⟨gb, 0, none⟩) r.length gc).ownBlock → w2.frozen? ⟨ob, i, none⟩ = false) := Lib.hid fun w2 hg => by
    obtain ⟨cs, hob⟩ := V.obc
    have : w2.heap[ob]? = some (.cells cs 93 (0, 0)) := by
      rw [hg.block ob (by rw [hzz]; omega) (by simp [Value.ownBlock, nb2])]
      show (w1.alloc _).heap[ob]? = _
      rw [Below.heap_alloc w1 _ ob l1', hB0.block ob l1]; exact hob
    simp [World.frozen?, this]
  have FIN : Hid (∀ w2 v1, Own EN 95 w2 base v1 (insAt r (j + 1) ⟨y5, y4, false⟩) → ((w1.alloc (.cells #[.int .i64 y5, .string y4, .bool false] 95)).drew).grownBy w2 (Value.slice (some ⟨gb, 0, none⟩) r.length gc).ownBlock →
      Below base ((w1.alloc (.cells #[.int .i64 y5, .string y4, .bool false] 95)).drew) w2 → (v1.ownBlock = (Value.slice (some ⟨gb, 0, none⟩) r.length gc).ownBlock ∨ ∀ b, v1.ownBlock = some b → ((w1.alloc (.cells #[.int .i64 y5, .string y4, .bool false] 95)).drew).heap.size ≤ b) →
      IsEd (w2.setCell ⟨ob, i, none⟩ v1) base eb (rows.set i (insAt r (j + 1) ⟨y5, y4, false⟩)) ∧ KeepD w (w2.setCell ⟨ob, i, none⟩ v1) ∧ Below base w (w2.setCell ⟨ob, i, none⟩ v1)) := Lib.hid fun w2 v1 f1 f2 f3 f4 => by
    have g1 : w.grownBy w2 (some gb) := (grownBy_of_below HBA.out (some gb)).trans f2
    obtain ⟨gcs, hgbc⟩ := V.gbc
    obtain ⟨ocs, hobc⟩ := V.obc
    have hgb2 : ((w1.alloc (.cells #[.int .i64 y5, .string y4, .bool false] 95)).drew).heap[gb]? = some (.cells gcs 95 (0, 0)) := by
      rw [HBA.out.block gb hgbz]; exact hgbc
    have hob2 : w2.heap[ob]? = some (.cells ocs 93 (0, 0)) := by
      rw [g1.block ob l1 (by simp [nb2])]; exact hobc
    refine ⟨V.put w2 v1 _ g1 f1 ?_, (HK.out.trans (KeepD.grown f2 (fun k e => by cases e; exact ⟨gcs, _, _, hgb2, .inl rfl⟩))).trans (KeepD.store hob2 (.inr (.inl rfl))), ?_⟩
    · rcases f4 with f4 | f4
      · exact .inl f4
      · exact .inr fun b hb => by have := f4 b hb; rw [hzz] at this; omega
    · exact ((HBA.out.mono hbase).trans f3).setCell (p := ⟨ob, i, none⟩) V.base_ob v1
  clear V h k0 k1 hB0 hO0 hO2 ce
  have lz2 : w.heap.size ≠ gb := by omega
  have nb3 : ob ≠ eb := NB.out
  have nb4 : ob ≠ w.heap.size := by omega
  refine wp_region_noPanic ?_
  refine wp_region_held_drew (S := fun w' => w'.cell? ⟨eb, 5, none⟩ = some (.slice (some ⟨ob, 0, none⟩) rows.length oc) ∧ w'.cell? ⟨w.heap.size, 4, none⟩ = some (.string y4) ∧ w'.cell? ⟨w.heap.size, 5, none⟩ = some (.int .i64 y5)) (by kernel_rfl) (by (try dsimp only); go_keep) (fun hHeld => ?_)
  refine wpAnyH_takeL 0 (v := ?_) rfl (by kernel_rfl) (by kernel_rfl) (by kernel_rfl) (fun _ _ _ h => h) ⟨by rfl, ?_⟩ (by assumption) ?_
  rotate_left
  · intro w hSw; (try dsimp only at hSw); go_simp; try with_reducible rfl
  try simp only [Act.put, List.setIfInBounds_toArray, List.set_cons_zero, List.set_cons_succ]
  refine wpAnyH_takeL 1 (v := ?_) rfl (by kernel_rfl) (by kernel_rfl) (by kernel_rfl) (fun _ _ _ h => h) ⟨by rfl, ?_⟩ (by assumption) ?_
  rotate_left
  · intro w hSw; (try dsimp only at hSw); go_simp; try with_reducible rfl
  try simp only [Act.put, List.setIfInBounds_toArray, List.set_cons_zero, List.set_cons_succ]
  refine wpAnyH_takeL 2 (v := ?_) rfl (by kernel_rfl) (by kernel_rfl) (by kernel_rfl) (fun _ _ _ h => h) ⟨by rfl, ?_⟩ (by assumption) ?_
  rotate_left
  · intro w hSw; (try dsimp only at hSw); go_simp; try with_reducible rfl
  try simp only [Act.put, List.setIfInBounds_toArray, List.set_cons_zero, List.set_cons_succ]
  refine wpAnyH_takeL 3 (v := ?_) rfl (by kernel_rfl) (by kernel_rfl) (by kernel_rfl) (fun _ _ _ h => h) ⟨by rfl, ?_⟩ (by assumption) ?_
  rotate_left
  · intro w hSw; (try dsimp only at hSw); go_simp; try with_reducible rfl
  try simp only [Act.put, List.setIfInBounds_toArray, List.set_cons_zero, List.set_cons_succ]
  refine wpAnyH_takeL 4 (v := ?_) rfl (by kernel_rfl) (by kernel_rfl) (by kernel_rfl) (fun _ _ _ h => h) ⟨by rfl, ?_⟩ (by assumption) ?_
  rotate_left
  · intro w hSw; (try dsimp only at hSw); go_simp; try with_reducible rfl
  try simp only [Act.put, List.setIfInBounds_toArray, List.set_cons_zero, List.set_cons_succ]
  refine wpAnyH_takeL 5 (v := ?_) rfl (by kernel_rfl) (by kernel_rfl) (by kernel_rfl) (fun _ _ _ h => h) ⟨by rfl, ?_⟩ (by assumption) ?_
  rotate_left
  · intro w hSw; (try dsimp only at hSw); go_simp; try with_reducible rfl
  try simp only [Act.put, List.setIfInBounds_toArray, List.set_cons_zero, List.set_cons_succ]
  refine wpAnyH_takeL 6 (v := ?_) rfl (by kernel_rfl) (by kernel_rfl) (by kernel_rfl) (fun _ _ _ h => h) ⟨by rfl, ?_⟩ (by assumption) ?_
  rotate_left
  · intro w hSw; (try dsimp only at hSw); go_simp; try with_reducible rfl
  try simp only [Act.put, List.setIfInBounds_toArray, List.set_cons_zero, List.set_cons_succ]
  refine wpAnyH_takeL 7 (v := ?_) rfl (by kernel_rfl) (by kernel_rfl) (by kernel_rfl) (fun _ _ _ h => h) ⟨by rfl, ?_⟩ (by assumption) ?_
  rotate_left
  · intro w hSw; (try dsimp only at hSw); go_simp; try with_reducible rfl
  try simp only [Act.put, List.setIfInBounds_toArray, List.set_cons_zero, List.set_cons_succ]
  refine wpAnyH_takeL 8 (v := ?_) rfl (by kernel_rfl) (by kernel_rfl) (by kernel_rfl) (fun _ _ _ h => h) ⟨by rfl, ?_⟩ (by assumption) ?_
  rotate_left
  · intro w hSw; (try dsimp only at hSw); go_simp; try with_reducible rfl
  try simp only [Act.put, List.setIfInBounds_toArray, List.set_cons_zero, List.set_cons_succ]
  refine wpAnyH_takeL 9 (v := ?_) rfl (by kernel_rfl) (by kernel_rfl) (by kernel_rfl) (fun _ _ _ h => h) ⟨by rfl, ?_⟩ (by assumption) ?_
  rotate_left
  · intro w hSw; (try dsimp only at hSw); go_simp; try with_reducible rfl
  try simp only [Act.put, List.setIfInBounds_toArray, List.set_cons_zero, List.set_cons_succ]
  refine wpAnyH_takeL 10 (v := ?_) rfl (by kernel_rfl) (by kernel_rfl) (by kernel_rfl) (fun _ _ _ h => h) ⟨by rfl, ?_⟩ (by assumption) ?_
  rotate_left
  · intro w hSw; (try dsimp only at hSw); go_simp; try with_reducible rfl
  try simp only [Act.put, List.setIfInBounds_toArray, List.set_cons_zero, List.set_cons_succ]
  refine wpAnyH_takeL 12 (v := ?_) rfl (by kernel_rfl) (by kernel_rfl) (by kernel_rfl) (fun _ _ _ h => h) ⟨by rfl, ?_⟩ (by assumption) ?_
  rotate_left
  · intro w hSw; (try dsimp only at hSw); go_simp; try with_reducible rfl
  try simp only [Act.put, List.setIfInBounds_toArray, List.set_cons_zero, List.set_cons_succ]
  refine wpAnyH_takeL 13 (v := ?_) rfl (by kernel_rfl) (by kernel_rfl) (by kernel_rfl) (fun _ _ _ h => h) ⟨by rfl, ?_⟩ (by assumption) ?_
  rotate_left
  · intro w hSw; (try dsimp only at hSw); go_simp; try with_reducible rfl
  try simp only [Act.put, List.setIfInBounds_toArray, List.set_cons_zero, List.set_cons_succ]
  refine wpAnyH_takeL 14 (v := ?_) rfl (by kernel_rfl) (by kernel_rfl) (by kernel_rfl) (fun _ _ _ h => h) ⟨by rfl, ?_⟩ (by assumption) ?_
  rotate_left
  · intro w hSw; (try dsimp only at hSw); go_simp; try with_reducible rfl
  try simp only [Act.put, List.setIfInBounds_toArray, List.set_cons_zero, List.set_cons_succ]
  refine wpAnyH_takeL 15 (v := ?_) rfl (by kernel_rfl) (by kernel_rfl) (by kernel_rfl) (fun _ _ _ h => h) ⟨by rfl, ?_⟩ (by assumption) ?_
  rotate_left
  · intro w hSw; (try dsimp only at hSw); go_simp; try with_reducible rfl
  try simp only [Act.put, List.setIfInBounds_toArray, List.set_cons_zero, List.set_cons_succ]
  refine wpAnyH_takeL 16 (v := ?_) rfl (by kernel_rfl) (by kernel_rfl) (by kernel_rfl) (fun _ _ _ h => h) ⟨by rfl, ?_⟩ (by assumption) ?_
  rotate_left
  · intro w hSw; (try dsimp only at hSw); go_simp; try with_reducible rfl
  try simp only [Act.put, List.setIfInBounds_toArray, List.set_cons_zero, List.set_cons_succ]
  refine wpAnyH_takeL 17 (v := ?_) rfl (by kernel_rfl) (by kernel_rfl) (by kernel_rfl) (fun _ _ _ h => h) ⟨by rfl, ?_⟩ (by assumption) ?_
  rotate_left
  · intro w hSw; (try dsimp only at hSw); go_simp; try with_reducible rfl
  try simp only [Act.put, List.setIfInBounds_toArray, List.set_cons_zero, List.set_cons_succ]
  refine wpAnyH_takeL 18 (v := ?_) rfl (by kernel_rfl) (by kernel_rfl) (by kernel_rfl) (fun _ _ _ h => h) ⟨by rfl, ?_⟩ (by assumption) ?_
  rotate_left
  · intro w hSw; (try dsimp only at hSw); go_simp; try with_reducible rfl
  try simp only [Act.put, List.setIfInBounds_toArray, List.set_cons_zero, List.set_cons_succ]
  refine wpAnyH_takeL 19 (v := ?_) rfl (by kernel_rfl) (by kernel_rfl) (by kernel_rfl) (fun _ _ _ h => h) ⟨by rfl, ?_⟩ (by assumption) ?_
  rotate_left
  · intro w hSw; (try dsimp only at hSw); go_simp; try with_reducible rfl
  try simp only [Act.put, List.setIfInBounds_toArray, List.set_cons_zero, List.set_cons_succ]
  refine wpAnyH_ready (rs := [11, 20]) (by kernel_rfl) (by simp) ?_
  refine AllReadyH_consL (i := 11) rfl (fun K hK => ?_) (AllReadyH_consL (i := 20) rfl (fun K hK => ?_) AllReadyH.nil)
  · go_simp
    refine hK.out _ _ (by (try dsimp only); go_keep) (fun hHeld => ?_)
    clear hK K
    try simp only [Act.put, List.setIfInBounds_toArray, List.set_cons_zero, List.set_cons_succ]
    refine wpAnyH_ready (rs := [20]) (by kernel_rfl) (by simp) ?_
    refine AllReadyH_consL (i := 20) rfl (fun K hK => ?_) AllReadyH.nil
    go_simp
    refine hK.out _ _ (by (try dsimp only); go_keep) (fun hHeld => ?_)
    clear hK K
    try simp only [Act.put, List.setIfInBounds_toArray, List.set_cons_zero, List.set_cons_succ]
    refine wpAnyH_ready (rs := [21]) (by kernel_rfl) (by simp) ?_
    refine AllReadyH_consL (i := 21) rfl (fun K hK => ?_) AllReadyH.nil
    go_simp
    (go_at_call 82; refine hins.mono ?_; rintro en w2 ⟨v1, rfl, hO1, hg1, hb1, hfr1⟩; obtain ⟨A9, c9, rfl, -⟩ := id hO1.rd; have e0 := ((cell_far hg1 ⟨eb, 5, none⟩ (by rw [hzz]; exact Nat.lt_add_right 2 l0) (by simp [Value.ownBlock, nb1])).trans (CE.out eb l0' 5)).trans k0'; have e1 := ((cell_far hg1 ⟨ob, i, none⟩ (by rw [hzz]; exact Nat.lt_add_right 2 l1) (by simp [Value.ownBlock, nb2])).trans (CE.out ob l1' i)).trans k1'; have e4 := ((cell_far hg1 ⟨w.heap.size, 4, none⟩ (by rw [hzz]; exact Nat.lt_add_of_pos_right (by decide)) (by simp [Value.ownBlock, lz2])).trans (CE.out w.heap.size lz 4)).trans q4; have e5 := ((cell_far hg1 ⟨w.heap.size, 5, none⟩ (by rw [hzz]; exact Nat.lt_add_of_pos_right (by decide)) (by simp [Value.ownBlock, lz2])).trans (CE.out w.heap.size lz 5)).trans q5; have efr : w2.frozen? ⟨ob, i, none⟩ = false := FR.out w2 hg1; have HH1 := Lib.hid hO1; have HH2 := Lib.hid hg1; have HH3 := Lib.hid hb1; have HH4 := Lib.hid hfr1; clear hO1 hg1 hb1 hfr1)
    refine hK.out _ _ (by (try dsimp only); go_keep) (fun hHeld => ?_)
    clear hK K
    try simp only [Act.put, List.setIfInBounds_toArray, List.set_cons_zero, List.set_cons_succ]
    refine wpAnyH_takeL 22 (v := ?_) rfl (by kernel_rfl) (by kernel_rfl) (by kernel_rfl) (fun _ _ _ h => h) ⟨by rfl, ?_⟩ (by assumption) ?_
    rotate_left
    · intro w hSw; (try dsimp only at hSw); go_simp; try with_reducible rfl
    try simp only [Act.put, List.setIfInBounds_toArray, List.set_cons_zero, List.set_cons_succ]
    refine wpAnyH_ready (rs := [23]) (by kernel_rfl) (by simp) ?_
    refine AllReadyH_consL (i := 23) rfl (fun K hK => ?_) AllReadyH.nil
    go_simp
    refine hK.out _ _ (by (try dsimp only); go_keep) (fun hHeld => ?_)
    clear hK K
    try simp only [Act.put, List.setIfInBounds_toArray, List.set_cons_zero, List.set_cons_succ]
    refine wpAnyH_done (by kernel_rfl) ?_ _
    refine NoPanic.normal ?_
    go_end0
    exact ⟨rfl, FIN.out _ _ HH1.out HH2.out HH3.out HH4.out⟩
  · go_simp
    refine hK.out _ _ (by (try dsimp only); go_keep) (fun hHeld => ?_)
    clear hK K
    try simp only [Act.put, List.setIfInBounds_toArray, List.set_cons_zero, List.set_cons_succ]
    refine wpAnyH_ready (rs := [11]) (by kernel_rfl) (by simp) ?_
    refine AllReadyH_consL (i := 11) rfl (fun K hK => ?_) AllReadyH.nil
    go_simp
    refine hK.out _ _ (by (try dsimp only); go_keep) (fun hHeld => ?_)
    clear hK K
    try simp only [Act.put, List.setIfInBounds_toArray, List.set_cons_zero, List.set_cons_succ]
    refine wpAnyH_ready (rs := [21]) (by kernel_rfl) (by simp) ?_
    refine AllReadyH_consL (i := 21) rfl (fun K hK => ?_) AllReadyH.nil
    go_simp
    (go_at_call 82; refine hins.mono ?_; rintro en w2 ⟨v1, rfl, hO1, hg1, hb1, hfr1⟩; obtain ⟨A9, c9, rfl, -⟩ := id hO1.rd; have e0 := ((cell_far hg1 ⟨eb, 5, none⟩ (by rw [hzz]; exact Nat.lt_add_right 2 l0) (by simp [Value.ownBlock, nb1])).trans (CE.out eb l0' 5)).trans k0'; have e1 := ((cell_far hg1 ⟨ob, i, none⟩ (by rw [hzz]; exact Nat.lt_add_right 2 l1) (by simp [Value.ownBlock, nb2])).trans (CE.out ob l1' i)).trans k1'; have e4 := ((cell_far hg1 ⟨w.heap.size, 4, none⟩ (by rw [hzz]; exact Nat.lt_add_of_pos_right (by decide)) (by simp [Value.ownBlock, lz2])).trans (CE.out w.heap.size lz 4)).trans q4; have e5 := ((cell_far hg1 ⟨w.heap.size, 5, none⟩ (by rw [hzz]; exact Nat.lt_add_of_pos_right (by decide)) (by simp [Value.ownBlock, lz2])).trans (CE.out w.heap.size lz 5)).trans q5; have efr : w2.frozen? ⟨ob, i, none⟩ = false := FR.out w2 hg1; have HH1 := Lib.hid hO1; have HH2 := Lib.hid hg1; have HH3 := Lib.hid hb1; have HH4 := Lib.hid hfr1; clear hO1 hg1 hb1 hfr1)
    refine hK.out _ _ (by (try dsimp only); go_keep) (fun hHeld => ?_)
    clear hK K
    try simp only [Act.put, List.setIfInBounds_toArray, List.set_cons_zero, List.set_cons_succ]
    refine wpAnyH_takeL 22 (v := ?_) rfl (by kernel_rfl) (by kernel_rfl) (by kernel_rfl) (fun _ _ _ h => h) ⟨by rfl, ?_⟩ (by assumption) ?_
    rotate_left
    · intro w hSw; (try dsimp only at hSw); go_simp; try with_reducible rfl
    try simp only [Act.put, List.setIfInBounds_toArray, List.set_cons_zero, List.set_cons_succ]
    refine wpAnyH_ready (rs := [23]) (by kernel_rfl) (by simp) ?_
    refine AllReadyH_consL (i := 23) rfl (fun K hK => ?_) AllReadyH.nil
    go_simp
    refine hK.out _ _ (by (try dsimp only); go_keep) (fun hHeld => ?_)
    clear hK K
    try simp only [Act.put, List.setIfInBounds_toArray, List.set_cons_zero, List.set_cons_succ]
    refine wpAnyH_done (by kernel_rfl) ?_ _
    refine NoPanic.normal ?_
    go_end0
    exact ⟨rfl, FIN.out _ _ HH1.out HH2.out HH3.out HH4.out⟩
end Go.Proofs.YtjkmdpejcgepkaaGreatDoor
