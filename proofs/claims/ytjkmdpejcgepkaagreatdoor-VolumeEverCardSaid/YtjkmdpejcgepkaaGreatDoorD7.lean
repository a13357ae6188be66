/- read: what has not the form is told. -/
import Derived.Test.YtjkmdpejcgepkaaGreatDoorD6
import Derived.Recover
namespace Go.Proofs.YtjkmdpejcgepkaaGreatDoor
open Go.RowKit
theorem ta_odd (v : Value) (W : World) : (Instr.typeAssert (.iface 153 v) 20 153 true).run Tryz.prog W = .ok (.tuple #[v, .bool true]) W := by kernel_rfl
theorem read1_idle (p q : Addr) (w : World) :
    CallsD Tryz.prog 60 #[.pointer (some p), .pointer (some q)] .returning w fun e u' w' => e = .returned (.tuple #[]) ∧ u' = .returning ∧ w' = w := by
  refine callsD_of_wpS Tryz.func60 rfl fun c₀ cs hu => ?_
  apply wpS_seq
  apply wpS_region
  simp [wpOpsS, go_sem, recoverD, hu, Tryz.ntmps60, Exit.thenS]
  simp only [Array.replicate_succ, Array.replicate_zero, List.push_toArray, List.append_toArray, List.nil_append, List.cons_append, List.setIfInBounds_toArray, List.set_cons_zero, List.set_cons_succ]
  refine wpS_of_wp ?_
  generalize hQ : (fun (e : Exit) (a' : Act) (w' : World) => bodyPostS Tryz.prog Tryz.f60 c₀ cs _ e a' (c₀ :: cs) w') = Q
  go_wp2
  rw [← hQ]
  simp [bodyPostS, results, Tryz.results60, go_sem]
  cases c₀
  simp_all
set_option maxRecDepth 100000 in
theorem read1_catch (cb ib : Nat) (cite : ByteArray) (s0 s1 s2 s3 : Value) (x : Value) (older : List PanicEntry) (w : World) (hc : w.heap[cb]? = some (.cells #[s0, s1, s2, s3] 106 (0, 0))) (hi : w.heap[ib]? = some (.cells #[x] 4 (0, 0))) (hne : cb ≠ ib) :
    CallsD Tryz.prog 60 #[.pointer (some ⟨cb, 0, none⟩), .pointer (some ⟨ib, 0, none⟩)] (.panicking ({ v := .iface 153 (.agg #[.string cite]), recovered := false } :: older)) w fun e u' w' =>
      e = .returned (.tuple #[]) ∧ u' = .panicking ({ v := .iface 153 (.agg #[.string cite]), recovered := true } :: older) ∧ w'.heap[cb]? = some (.cells #[.int .u8 0, .int .i64 0, .int .i64 0, .int .i64 0] 106 (0, 0)) ∧ w'.heap[ib]? = some (.cells #[.bool false] 4 (0, 0)) ∧ ∀ B, B ≤ cb → B ≤ ib → B ≤ w.heap.size → Below B w w' := by
  have hta := ta_odd
  refine callsD_of_wpS Tryz.func60 rfl fun c₀ cs hu => ?_
  apply wpS_seq
  apply wpS_region
  simp [wpOpsS, go_sem, recoverD, hu, Tryz.ntmps60, Exit.thenS]
  simp only [Array.replicate_succ, Array.replicate_zero, List.push_toArray, List.append_toArray, List.nil_append, List.cons_append, List.setIfInBounds_toArray, List.set_cons_zero, List.set_cons_succ]
  refine wpS_of_wp ?_
  have lc : cb < w.heap.size := (Array.getElem?_eq_some_iff.1 hc).1
  have li : ib < w.heap.size := (Array.getElem?_eq_some_iff.1 hi).1
  obtain ⟨k0, k1, k2, k3⟩ := cells4 hc
  have f0 : ∀ i, w.frozen? ⟨cb, i, none⟩ = false := fun i => by simp [World.frozen?, hc]
  have g0 := f0 0; have g1 := f0 1; have g2 := f0 2; have g3 := f0 3
  have ki : w.cell? ⟨ib, 0, none⟩ = some x := by simp [World.cell?, hi]
  have gi : w.frozen? ⟨ib, 0, none⟩ = false := by simp [World.frozen?, hi]
  have HC := Lib.hid hc; have HI := Lib.hid hi; have HU := Lib.hid hu
  clear hc hi f0 hu
  generalize hQ : (fun (e : Exit) (a' : Act) (w' : World) => bodyPostS Tryz.prog Tryz.f60 c₀ cs _ e a' _ w') = Q
  have HQ := Lib.hid hQ
  clear hQ
  go_wp2
  rw [← HQ.out]
  clear HQ
  simp [bodyPostS, results, Tryz.results60, go_sem]
  have s4 : ((((w.setCell ⟨cb, 0, none⟩ (.int .u8 0)).setCell ⟨cb, 1, none⟩ (.int .i64 0)).setCell ⟨cb, 2, none⟩ (.int .i64 0)).setCell ⟨cb, 3, none⟩ (.int .i64 0)).heap.size = w.heap.size := by simp [World.size_setCell]
  refine ⟨?_, ?_, fun B h1 h2 h3 => ?_⟩
  · rw [Below.heap_alloc _ _ _ (by simp only [World.size_setCell]; exact lc), Below.heap_setCell _ _ _ _ (fun e => hne e)]
    exact set4_heap _ _ _ _ HC.out
  · rw [Below.heap_alloc _ _ _ (by simp only [World.size_setCell]; exact li)]
    simp only [World.setCell, Array.getElem?_modify]
    simp [HI.out, hne]
  · exact ((set4_below _ _ _ _ (Below.refl B w) h1).setCell (p := ⟨ib, 0, none⟩) h2 _).alloc (by rw [World.size_setCell, s4]; exact h3) _
end Go.Proofs.YtjkmdpejcgepkaaGreatDoor
/- read: the walk. -/
namespace Go.Proofs.YtjkmdpejcgepkaaGreatDoor
open Go.RowKit
def readC (o : Option (Int × Int × Int × Int)) : Value := match o with
  | some p => .tuple #[.agg #[.int .u8 p.1, .int .i64 p.2.1, .int .i64 p.2.2.1, .int .i64 p.2.2.2], .bool true]
  | none => .tuple #[.agg #[.int .u8 0, .int .i64 0, .int .i64 0, .int .i64 0], .bool false]
set_option maxHeartbeats 2000000 in
set_option maxRecDepth 100000 in
theorem read_any (cite : ByteArray) (w : World) (hl : cite.size ≤ 100000) (hg : Glob w) : Calls Tryz.prog 39 #[.string cite] w fun e w' => e = .returned (readC (parseC cite.data.toList)) ∧ Below w.heap.size w w' := by
  have hmf : ∀ (fn : Fn) (first cap : Array Value) (w : World), (Instr.makeFunc fn first cap).run Tryz.prog w = .ok (.func fn first cap) w := fun _ _ _ _ => rfl
  have hp := fun W (hG : Glob W) => parse_any cite W hl hG
  generalize parseC _ = o at hp ⊢
  have hb2 : Below w.heap.size w ((w.alloc (.cells #[.int .u8 0, .int .i64 0, .int .i64 0, .int .i64 0] 106)).alloc (.cells #[.bool false] 4)) := ((Below.refl _ w).alloc (Nat.le_refl _) _).alloc (by simp) _
  have hp1 := hp _ (hg.below hb2)
  clear hp
  have hh : ∀ w1, Below ((w.alloc (.cells #[.int .u8 0, .int .i64 0, .int .i64 0, .int .i64 0] 106)).alloc (.cells #[.bool false] 4)).heap.size ((w.alloc (.cells #[.int .u8 0, .int .i64 0, .int .i64 0, .int .i64 0] 106)).alloc (.cells #[.bool false] 4)) w1 →
      w1.heap[w.heap.size]? = some (.cells #[.int .u8 0, .int .i64 0, .int .i64 0, .int .i64 0] 106 (0, 0)) ∧ w1.heap[w.heap.size + 1]? = some (.cells #[.bool false] 4 (0, 0)) := fun w1 h => by
    refine ⟨?_, ?_⟩
    · rw [h.block _ (by simp; omega), Below.heap_alloc _ _ _ (by simp)]; exact World.alloc_heap_new w _
    · rw [h.block _ (by simp)]
      have k := World.alloc_heap_new (w.alloc (.cells #[.int .u8 0, .int .i64 0, .int .i64 0, .int .i64 0] 106)) (.cells #[.bool false] 4)
      rw [World.size_alloc] at k; exact k
  have HH := Lib.hid hh
  have HB2 := Lib.hid hb2
  clear hh hb2
  cases o with
  | none =>
    have hp2 := hp1.mono (R' := fun e w1 => e = .panicked [{ v := .iface 153 (.agg #[.string cite]), recovered := false }] ∧ Below _ _ w1) fun e w1 h => ⟨h.2, h.1⟩
    clear hp1
    go_enter_defers Tryz.func39, Tryz.ntmps39
    go_wp2_with (first | (go_at_call 61; refine hp2.mono ?_; rintro e w1 ⟨rfl, hb1⟩))
    obtain ⟨x1, x2⟩ := HH.out w1 hb1
    refine leaves_cons (f := 60) (args := #[.pointer (some ⟨w.heap.size, 0, none⟩), .pointer (some ⟨w.heap.size + 1, 0, none⟩)]) (by simp) (by simp [go_sem]) ?_
    refine (read1_catch w.heap.size (w.heap.size + 1) cite _ _ _ _ _ [] w1 x1 x2 (by omega)).mono ?_
    rintro e u' w'' ⟨rfl, rfl, h1, h2, h3⟩
    have hz := (HB2.out.go hb1).size
    have hfin := (HB2.out.go hb1).trans (h3 w.heap.size (Nat.le_refl _) (Nat.le_succ _) hz)
    obtain ⟨k0, k1, k2, k3⟩ := cells4 h1
    have k4 : w''.cell? ⟨w.heap.size + 1, 0, none⟩ = some (.bool false) := by simp [World.cell?, h2]
    clear h1 h2 h3 x1 x2 hb1 HH HB2
    simp [Leaves, settle, results, Tryz.results39, go_sem, k0, k1, k2, k3, k4, hfin, readC]
  | some p =>
    obtain ⟨p0, p1, p2, p3⟩ := p
    have hp2 := hp1.mono (R' := fun e w1 => e = .returned (.agg #[.int .u8 p0, .int .i64 p1, .int .i64 p2, .int .i64 p3]) ∧ Below _ _ w1) fun e w1 h => ⟨h.2, h.1⟩
    clear hp1
    go_enter_defers Tryz.func39, Tryz.ntmps39
    go_wp2_with (fail)
    refine hp2.mono ?_
    rintro e w1 ⟨rfl, hb1⟩
    obtain ⟨x1, x2⟩ := HH.out w1 hb1
    obtain ⟨k0, k1, k2, k3⟩ := cells4 x1
    have fz : ∀ i, w1.frozen? ⟨w.heap.size, i, none⟩ = false := fun i => by simp [World.frozen?, x1]
    have f0 := fz 0; have f1 := fz 1; have f2 := fz 2; have f3 := fz 3
    have k4 : w1.cell? ⟨w.heap.size + 1, 0, none⟩ = some (.bool false) := by simp [World.cell?, x2]
    have f4 : w1.frozen? ⟨w.heap.size + 1, 0, none⟩ = false := by simp [World.frozen?, x2]
    have X1 := Lib.hid x1; have X2 := Lib.hid x2; have HB1 := Lib.hid hb1
    clear x1 x2 hb1 fz
    go_wp2
    have hz := (HB2.out.go HB1.out).size
    have hfin := (set4_below (c := w.heap.size) (.int .u8 p0) (.int .i64 p1) (.int .i64 p2) (.int .i64 p3) (HB2.out.go HB1.out) (Nat.le_refl _)).setCell (p := ⟨w.heap.size + 1, 0, none⟩) (Nat.le_succ _) (.bool true)
    have y1 : (((((w1.setCell ⟨w.heap.size, 0, none⟩ (.int .u8 p0)).setCell ⟨w.heap.size, 1, none⟩ (.int .i64 p1)).setCell ⟨w.heap.size, 2, none⟩ (.int .i64 p2)).setCell ⟨w.heap.size, 3, none⟩ (.int .i64 p3)).setCell ⟨w.heap.size + 1, 0, none⟩ (.bool true)).heap[w.heap.size]? = some (.cells #[.int .u8 p0, .int .i64 p1, .int .i64 p2, .int .i64 p3] 106 (0, 0)) := by
      rw [Below.heap_setCell _ _ _ _ (fun e => by simp at e)]
      exact set4_heap _ _ _ _ X1.out
    have y2 : (((((w1.setCell ⟨w.heap.size, 0, none⟩ (.int .u8 p0)).setCell ⟨w.heap.size, 1, none⟩ (.int .i64 p1)).setCell ⟨w.heap.size, 2, none⟩ (.int .i64 p2)).setCell ⟨w.heap.size, 3, none⟩ (.int .i64 p3)).setCell ⟨w.heap.size + 1, 0, none⟩ (.bool true)).heap[w.heap.size + 1]? = some (.cells #[.bool true] 4 (0, 0)) := by
      simp only [World.setCell, Array.getElem?_modify]
      simp [X2.out]
    refine leaves_cons (f := 60) (args := #[.pointer (some ⟨w.heap.size, 0, none⟩), .pointer (some ⟨w.heap.size + 1, 0, none⟩)]) (by simp) (by simp [go_sem]) ?_
    refine (read1_idle _ _ _).mono ?_
    rintro e u' w'' ⟨rfl, rfl, rfl⟩
    clear k0 k1 k2 k3 k4 f0 f1 f2 f3 f4 X1 X2 HB1 HB2 HH
    generalize (((((w1.setCell ⟨w.heap.size, 0, none⟩ (.int .u8 p0)).setCell ⟨w.heap.size, 1, none⟩ (.int .i64 p1)).setCell ⟨w.heap.size, 2, none⟩ (.int .i64 p2)).setCell ⟨w.heap.size, 3, none⟩ (.int .i64 p3)).setCell ⟨w.heap.size + 1, 0, none⟩ (.bool true)) = w2 at y1 y2 hfin ⊢
    obtain ⟨k0, k1, k2, k3⟩ := cells4 y1
    have k4 : w2.cell? ⟨w.heap.size + 1, 0, none⟩ = some (.bool true) := by simp [World.cell?, y2]
    clear y1 y2
    simp [Leaves, settle, results, Tryz.results39, go_sem, k0, k1, k2, k3, k4, hfin, readC]
end Go.Proofs.YtjkmdpejcgepkaaGreatDoor
