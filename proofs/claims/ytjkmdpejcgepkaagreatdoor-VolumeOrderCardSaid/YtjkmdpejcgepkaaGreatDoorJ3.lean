/- turned: a list of errata that begins elsewhere, two of them changed. -/
import Derived.Test.YtjkmdpejcgepkaaGreatDoorCB
import Derived.Test.YtjkmdpejcgepkaaGreatDoorF1
import Derived.Deep.CutRange
import Derived.Deep.RegionHeld3
import Derived.BigRegion
namespace Go.Proofs.YtjkmdpejcgepkaaGreatDoor
open Go.RowKit
/-- a part of a row that is read -/
theorem Rd.drop {α : Type} {enc : α → List Value} {k : Nat} {w : World} {g off n c : Nat} {xs : List α} (h : Rd enc k w (.slice (some ⟨g, off, none⟩) n c) xs) (i : Nat) (hi : i ≤ xs.length) :
    Rd enc k w (.slice (some ⟨g, off + i * k, none⟩) (n - i) (c - i)) (xs.drop i) := by
  obtain ⟨A, c', e, hc, hm, hr⟩ := h
  cases e
  refine ⟨_, c - i, by rw [List.length_drop], by rw [List.length_drop]; omega, by rw [List.length_drop]; omega, fun h0 => ?_⟩
  rw [List.length_drop] at h0
  obtain ⟨b, o, e, hb, hrow⟩ := hr (by omega)
  cases e
  refine ⟨_, _, rfl, hb, fun j hj q u hu => ?_⟩
  rw [List.length_drop] at hj
  rw [List.getElem_drop] at hu
  have := hrow (i + j) (by omega) q u hu
  rw [show off + i * k + j * k + q = off + (i + j) * k + q by rw [Nat.add_mul]; omega]
  exact this
theorem Rd.take {α : Type} {enc : α → List Value} {k : Nat} {w : World} {A : Option Addr} {n c : Nat} {xs : List α} (h : Rd enc k w (.slice A n c) xs) (i : Nat) (hi : i ≤ xs.length) : Rd enc k w (.slice A i c) (xs.take i) := by
  obtain ⟨A', c', e, hc, hm, hr⟩ := h
  cases e
  have hl : (xs.take i).length = i := by rw [List.length_take]; omega
  refine ⟨A, c, by rw [hl], by omega, by omega, fun h0 => ?_⟩
  obtain ⟨b, o, e, hb, hrow⟩ := hr (by omega)
  refine ⟨b, o, e, hb, fun j hj q u hu => ?_⟩
  rw [List.getElem_take] at hu
  exact hrow j (by omega) q u hu
theorem Own.errCellsT {T : TypeId} {w : World} {base n c : Nat} {A : Option Addr} {xs : List Err} (h : Own EE T w base (.slice A n c) xs) (hn : xs.length = n) (h0 : 0 < n) :
    ∃ g, A = some ⟨g, 0, none⟩ ∧ base ≤ g ∧ g < w.heap.size ∧ (∃ cur, w.heap[g]? = some (.cells cur T (0, 0))) ∧ ∀ j (hj : j < xs.length), w.cell? ⟨g, j * 6, none⟩ = some (.int .i64 xs[j].number) ∧ w.cell? ⟨g, j * 6 + 1, none⟩ = some (.int .i64 xs[j].day) ∧ w.cell? ⟨g, j * 6 + 2, none⟩ = some (.int .u8 xs[j].kind) ∧ w.cell? ⟨g, j * 6 + 3, none⟩ = some (.int .i64 xs[j].anchor) ∧ w.cell? ⟨g, j * 6 + 4, none⟩ = some (.string xs[j].text) ∧ w.cell? ⟨g, j * 6 + 5, none⟩ = some (.int .i64 xs[j].new) := by
  obtain ⟨g, cap, cur, e, hb, hh, hc⟩ := h.cells_at (by omega)
  cases e
  exact ⟨g, rfl, hb, (Array.getElem?_eq_some_iff.1 hh).1, ⟨cur, hh⟩, fun j hj => ⟨hc j hj 0 _ rfl, hc j hj 1 _ rfl, hc j hj 2 _ rfl, hc j hj 3 _ rfl, hc j hj 4 _ rfl, hc j hj 5 _ rfl⟩⟩
theorem Own.storeAtT {T : TypeId} {w : World} {base g n c : Nat} {xs : List Err} {x y : Err} {u : Value} (j : Nat) (hj : j < xs.length) (h : Own EE T w base (.slice (some ⟨g, 0, none⟩) n c) (xs.set j x)) (i : Nat) (hi : i < 6) (hy : EE.f y = (EE.f x).set i u) :
    Own EE T (w.setCell ⟨g, j * 6 + i, none⟩ u) base (.slice (some ⟨g, 0, none⟩) n c) (xs.set j y) := by
  have h1 := h.store (g := g) rfl j (by simpa using hj) i hi y u (by rw [List.getElem_set_self]; exact hy)
  rw [List.set_set] at h1
  exact h1
theorem Own.store6T {T : TypeId} {w : World} {base g n c : Nat} {xs : List Err} (h : Own EE T w base (.slice (some ⟨g, 0, none⟩) n c) xs) (j : Nat) (hj : j < xs.length) (y : Err) :
    Own EE T ((((((w.setCell ⟨g, j * 6, none⟩ (.int .i64 y.number)).setCell ⟨g, j * 6 + 1, none⟩ (.int .i64 y.day)).setCell ⟨g, j * 6 + 2, none⟩ (.int .u8 y.kind)).setCell ⟨g, j * 6 + 3, none⟩ (.int .i64 y.anchor)).setCell ⟨g, j * 6 + 4, none⟩ (.string y.text)).setCell ⟨g, j * 6 + 5, none⟩ (.int .i64 y.new)) base (.slice (some ⟨g, 0, none⟩) n c) (xs.set j y) := by
  obtain ⟨y0, y1, y2, y3, y4, y5⟩ := y
  have hx : xs.set j xs[j] = xs := List.set_getElem_self hj
  rw [← hx] at h
  generalize hxx : xs[j] = x at h
  obtain ⟨x0, x1, x2, x3, x4, x5⟩ := x
  have s0 := Own.storeAtT (y := ⟨y0, x1, x2, x3, x4, x5⟩) j hj h 0 (by decide) rfl
  have s1 := Own.storeAtT (y := ⟨y0, y1, x2, x3, x4, x5⟩) j hj s0 1 (by decide) rfl
  have s2 := Own.storeAtT (y := ⟨y0, y1, y2, x3, x4, x5⟩) j hj s1 2 (by decide) rfl
  have s3 := Own.storeAtT (y := ⟨y0, y1, y2, y3, x4, x5⟩) j hj s2 3 (by decide) rfl
  have s4 := Own.storeAtT (y := ⟨y0, y1, y2, y3, y4, x5⟩) j hj s3 4 (by decide) rfl
  exact Own.storeAtT (y := ⟨y0, y1, y2, y3, y4, y5⟩) j hj s4 5 (by decide) rfl
def TurnPost (w : World) (l : List Err) (e : Ending) (w' : World) : Prop := ∃ v t, e = .returned v ∧ Own EE 77 w' w.heap.size v t ∧ t.Perm l ∧ Below w.heap.size w w'
theorem Tryz.infoErr4 : (Tryz.prog.info? 77).map (fun i => (i.zero, i.size, i.bytes)) = some (some (.agg #[.int .i64 0, .int .i64 0, .int .u8 0, .int .i64 0, .string ⟨#[]⟩, .int .i64 0]), 6, 56) := by kernel_rfl
set_option maxHeartbeats 8000000 in
set_option maxRecDepth 100000 in
theorem turned_any (v : Value) (l : List Err) (by_ at_ : Nat) (w : World) (hl : RdE w v l) (hn : l.length ≤ 100000) (hby : by_ ≤ 255) (hat : at_ ≤ 255) :
    Calls Tryz.prog 28 #[v, .int .u8 by_, .int .u8 at_] w (TurnPost w l) := by
  obtain ⟨A, c, rfl, hc, hm, hr⟩ := id hl
  by_cases h0 : l.length = 0
  · obtain rfl : l = [] := List.eq_nil_of_length_eq_zero h0
    have HF : Hid (TurnPost w [] (.returned (.slice none 0 0)) w) := Lib.hid ⟨_, [], rfl, Own.nil _ _ _ _, List.Perm.refl _, Below.refl _ _⟩
    clear hl hr h0
    generalize TurnPost w [] = PP at HF ⊢
    go_enter Tryz.func28, Tryz.ntmps28
    go_wp2
    exact HF.out
  have hpos : 0 < l.length := Nat.pos_of_ne_zero h0
  obtain ⟨g, off, rfl, hg, -⟩ := hr hpos
  clear hr
  have hb := Nat.mod_lt by_ hpos
  have ha := Nat.mod_lt at_ hpos
  have hm1 : (by_ : Int).tmod (l.length : Int) = ((by_ % l.length : Nat) : Int) := rfl
  have hm2 : (by_ : Int) % (l.length : Int) = ((by_ % l.length : Nat) : Int) := rfl
  have hm3 : (at_ : Int).tmod (l.length : Int) = ((at_ % l.length : Nat) : Int) := rfl
  have hm4 : (at_ : Int) % (l.length : Int) = ((at_ % l.length : Nat) : Int) := rfl
  generalize by_ % l.length = b at hb hm1 hm2
  generalize at_ % l.length = a at ha hm3 hm4
  have hR1 := hl.drop b (Nat.le_of_lt hb)
  have hR2 := hl.take b (Nat.le_of_lt hb)
  have hw1 : IntKind.i64.wrap (by_ : Int) = (by_ : Int) := by rw [IntKind.wrap_i64]; omega
  have hw2 : IntKind.i64.wrap (at_ : Int) = (at_ : Int) := by rw [IntKind.wrap_i64]; omega
  have hp : (l.drop b ++ l.take b).Perm l := (List.perm_append_comm).trans (by rw [List.take_append_drop])
  have hlen : (l.drop b ++ l.take b).length = l.length := hp.length_eq
  have hO := Own.empty_lit EE 77 w w.heap.size (Nat.le_refl _)
  have hBa : Below w.heap.size w (w.alloc (.cells #[] 77)).drew := ((Below.refl _ _).alloc (Nat.le_refl _) _).drew
  have hR1' : Rd EE.f EE.k (w.alloc (.cells #[] 77)).drew (.slice (some ⟨g, off + b * 6, none⟩) (l.length - b) (c - b)) (l.drop b) := Rd.below hR1 hBa
  have hO1 : Own EE 77 (w.alloc (.cells #[] 77)).drew w.heap.size (.slice (some ⟨w.heap.size, 0, none⟩) 0 0) [] := hO.drew
  have hs1 : (([] : List Err).length + (l.drop b).length) * 56 ≤ 140737488355328 := by simp; omega
  have hs2 : ((l.drop b).length + (l.take b).length) * 56 ≤ 140737488355328 := by rw [← List.length_append, hlen]; omega
  have HR2 := Lib.hid hR2
  have HP := Lib.hid hp
  have HLEN := Lib.hid hlen
  have hne : ((l.length : Int) == 0) = false := by simpa using h0
  have hnl : ¬ l = [] := fun h => h0 (by rw [h]; rfl)
  have e1 : (0 : Int) ≤ (b : Int) := by omega
  have e2 : (b : Int) ≤ (l.length : Int) := by omega
  have e3 : (l.length : Int) ≤ (c : Int) := by omega
  have e4 : (b : Int) ≤ (c : Int) := by omega
  have e5 : ¬ c = b := by omega
  clear hl hR1 hR2 hp hlen h0
  have HFIN : Hid (∀ v t w', Own EE 77 w' w.heap.size v t → t.Perm l → Below w.heap.size w w' → TurnPost w l (.returned v) w') := Lib.hid fun v t w' a b c => ⟨v, t, rfl, a, b, c⟩
  generalize TurnPost w l = PP at HFIN ⊢
  go_enter Tryz.func28, Tryz.ntmps28
  go_wp2
  go_cut [8] from 13 to 27 (fun s8 wx => Aside (Own EE 77 wx w.heap.size s8 (l.drop b ++ l.take b) ∧ Below w.heap.size w wx))
  case first =>
    go_region_held3 (fun _ => True) (trivial)
      (first
        | (refine step_append_rd EE w.heap.size (by rfl) _ _ 39 77 _ 56 (by rfl) Tryz.underlying39 Tryz.infoErr4 rfl (by decide) (.slice (some ⟨w.heap.size, 0, none⟩) 0 0) (.slice (some ⟨g, off + b * 6, none⟩) (l.length - b) (c - b)) [] (l.drop b) (by rfl) (by rfl) hO1 hR1' hBa.size hs1 ?_; intro v1 w1 hO2 hg1 hb1 hat1; have hB1 := hBa.trans hb1; have hRB := Rd.below HR2.out hB1; clear hO1 hR1' HR2)
        | (refine step_append_rd EE w.heap.size (by rfl) _ _ 39 77 _ 56 (by rfl) Tryz.underlying39 Tryz.infoErr4 rfl (by decide) v1 _ (l.drop b) (l.take b) (by rfl) (by rfl) hO2 hRB hB1.size hs2 ?_; intro v2 w2 hO3 hg2 hb2 hat2; have hB2 := hB1.trans hb2))
    all_goals (go_wp2_with fail; go_meet; exact ⟨hO3, hB2⟩)
  case rest =>
    obtain ⟨hO5, hB5⟩ := hcut.out
    clear hcut hO hBa hO1 hR1' HR2 hs1 hs2
    generalize l.drop b ++ l.take b = r at hO5 HP HLEN
    obtain ⟨A7, c7, rfl, -⟩ := id hO5.rd
    have hrl := HLEN.out
    have hl1 : (0 : Nat) < r.length := by omega
    have hl2 : a < r.length := by omega
    obtain ⟨g2, rfl, hgb, hgl, ⟨cur, hcur⟩, hcell⟩ := hO5.errCellsT rfl hl1
    have p0 : wc.cell? ⟨g2, 0, none⟩ = some (.int .i64 (r[0]'hl1).number) := by have h := (hcell 0 hl1).1; rw [Nat.zero_mul] at h; exact h
    have p1 : wc.cell? ⟨g2, 1, none⟩ = some (.int .i64 (r[0]'hl1).day) := by have h := (hcell 0 hl1).2.1; rw [Nat.zero_mul] at h; exact h
    have p2 : wc.cell? ⟨g2, 2, none⟩ = some (.int .u8 (r[0]'hl1).kind) := by have h := (hcell 0 hl1).2.2.1; rw [Nat.zero_mul] at h; exact h
    have p3 : wc.cell? ⟨g2, 3, none⟩ = some (.int .i64 (r[0]'hl1).anchor) := by have h := (hcell 0 hl1).2.2.2.1; rw [Nat.zero_mul] at h; exact h
    have p4 : wc.cell? ⟨g2, 4, none⟩ = some (.string (r[0]'hl1).text) := by have h := (hcell 0 hl1).2.2.2.2.1; rw [Nat.zero_mul] at h; exact h
    have p5 : wc.cell? ⟨g2, 5, none⟩ = some (.int .i64 (r[0]'hl1).new) := by have h := (hcell 0 hl1).2.2.2.2.2; rw [Nat.zero_mul] at h; exact h
    obtain ⟨q0, q1, q2, q3, q4, q5⟩ := hcell a hl2
    clear hcell
    generalize hx : r[0]'hl1 = x at p0 p1 p2 p3 p4 p5
    generalize hy : r[a]'hl2 = y at q0 q1 q2 q3 q4 q5
    obtain ⟨x0, x1, x2, x3, x4, x5⟩ := x
    obtain ⟨y0, y1, y2, y3, y4, y5⟩ := y
    dsimp only at p0 p1 p2 p3 p4 p5 q0 q1 q2 q3 q4 q5
    have HX := Lib.hid hx; have HY := Lib.hid hy; have HO := Lib.hid hO5; have HBB := Lib.hid hB5
    have hfr : ∀ o, wc.frozen? ⟨g2, o, none⟩ = false := fun o => by simp [World.frozen?, hcur]
    have i1 : (0 : Int) ≤ (a : Int) := by omega
    have i2 : (a : Int) < (l.length : Int) := by omega
    have i4 : (a : Int) < (r.length : Int) := by omega
    have i3 : (0 : Int) < (r.length : Int) := by omega
    clear hx hy hO5 hB5 hcur hrl
    by_cases ha0 : a = 0
    · subst ha0
      clear q0 q1 q2 q3 q4 q5 HY
      have hm5 : (at_ : Int).tmod (l.length : Int) = 0 := hm3
      have hm6 : (at_ : Int) % (l.length : Int) = 0 := hm4
      clear hm3 hm4 i1 i2 i4
      go_wp2
      go_region
      go_wp2
      refine HFIN.out _ ((r.set 0 ⟨x0, x1, x2, x3, x4, x5⟩).set 0 ⟨x0, x1, x2, x3, x4, x5⟩) _ ((HO.out.store6T 0 hl1 ⟨x0, x1, x2, x3, x4, x5⟩).store6T 0 (by simpa using hl1) ⟨x0, x1, x2, x3, x4, x5⟩).drew ?_ (below_set6 (below_set6 HBB.out hgb _ _ _ _ _ _ _ _ _ _ _ _) hgb _ _ _ _ _ _ _ _ _ _ _ _).drew
      rw [← HX.out, List.set_getElem_self, List.set_getElem_self]
      exact HP.out
    · have z1 : ¬ a * 6 = 1 := by omega
      have z2 : ¬ a * 6 = 2 := by omega
      have z3 : ¬ a * 6 = 3 := by omega
      have z4 : ¬ a * 6 = 4 := by omega
      have z5 : ¬ a * 6 = 5 := by omega
      have y1' : ¬ 1 = a * 6 := by omega
      have y2' : ¬ 2 = a * 6 := by omega
      have y3' : ¬ 3 = a * 6 := by omega
      have y4' : ¬ 4 = a * 6 := by omega
      have y5' : ¬ 5 = a * 6 := by omega
      have y0' : ¬ 0 = a := by omega
      go_wp2
      go_region
      go_wp2
      refine HFIN.out _ ((r.set 0 ⟨y0, y1, y2, y3, y4, y5⟩).set a ⟨x0, x1, x2, x3, x4, x5⟩) _ ((HO.out.store6T 0 hl1 ⟨y0, y1, y2, y3, y4, y5⟩).store6T a (by simpa using hl2) ⟨x0, x1, x2, x3, x4, x5⟩).drew ?_ (below_set6 (below_set6 HBB.out hgb _ _ _ _ _ _ _ _ _ _ _ _) hgb _ _ _ _ _ _ _ _ _ _ _ _).drew
      rw [← HX.out, ← HY.out]
      exact (List.set_set_perm hl1 hl2).trans HP.out
end Go.Proofs.YtjkmdpejcgepkaaGreatDoor
