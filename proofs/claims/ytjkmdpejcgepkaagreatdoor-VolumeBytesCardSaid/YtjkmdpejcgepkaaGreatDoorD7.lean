/- read: what has not the form is told. -/
import Derived.Test.YtjkmdpejcgepkaaGreatDoorD6
import Derived.Recover
namespace Go.Proofs.YtjkmdpejcgepkaaGreatDoor
open Go.RowKit
theorem ta_odd (v : Value) (W : World) : (Instr.typeAssert (.iface 153 v) 20 153 true).run Tryz.prog W = .ok (.tuple #[v, .bool true]) W := by kernel_rfl
theorem read1_idle (p q : Addr) (w : World) :
    CallsD Tryz.prog 60 #[.pointer (some p), .pointer (some q)] .returning w fun e u' w' => e = .returned (.tuple #[]) ∧ u' = .returning ∧ w' = w := by
  refine callsD_of_wpS Tryz.func60 rfl fun c₀ cs hu => ?_
  apply wpS_seq
  apply wpS_region
  simp [wpOpsS, go_sem, recoverD, hu, Tryz.ntmps60, Exit.thenS]
  simp only [Array.replicate_succ, Array.replicate_zero, List.push_toArray, List.append_toArray, List.nil_append, List.cons_append, List.setIfInBounds_toArray, List.set_cons_zero, List.set_cons_succ]
  refine wpS_of_wp ?_
  generalize hQ : (fun (e : Exit) (a' : Act) (w' : World) => bodyPostS Tryz.prog Tryz.f60 c₀ cs _ e a' (c₀ :: cs) w') = Q
  go_wp2
  rw [← hQ]
  simp [bodyPostS, results, Tryz.results60, go_sem]
  cases c₀
  simp_all
set_option maxRecDepth 100000 in
theorem read1_catch (cb ib : Nat) (cite : ByteArray) (s0 s1 s2 s3 : Value) (x : Value) (older : List PanicEntry) (w : World) (hc : w.heap[cb]? = some (.cells #[s0, s1, s2, s3] 106 (0, 0))) (hi : w.heap[ib]? = some (.cells #[x] 4 (0, 0))) (hne : cb ≠ ib) :
    CallsD Tryz.prog 60 #[.pointer (some ⟨cb, 0, none⟩), .pointer (some ⟨ib, 0, none⟩)] (.panicking ({ v := .iface 153 (.agg #[.string cite]), recovered := false } :: older)) w fun e u' w' =>
      e = .returned (.tuple #[]) ∧ u' = .panicking ({ v := .iface 153 (.agg #[.string cite]), recovered := true } :: older) ∧ w'.heap[cb]? = some (.cells #[.int .u8 0, .int .i64 0, .int .i64 0, .int .i64 0] 106 (0, 0)) ∧ w'.heap[ib]? = some (.cells #[.bool false] 4 (0, 0)) ∧ ∀ B, B ≤ cb → B ≤ ib → B ≤ w.heap.size → Below B w w' := by
  have hta := ta_odd
  refine callsD_of_wpS Tryz.func60 rfl fun c₀ cs hu => ?_
  apply wpS_seq
  apply wpS_region
  simp [wpOpsS, go_sem, recoverD, hu, Tryz.ntmps60, Exit.thenS]
  simp only [Array.replicate_succ, Array.replicate_zero, List.push_toArray, List.append_toArray, List.nil_append, List.cons_append, List.setIfInBounds_toArray, List.set_cons_zero, List.set_cons_succ]
  refine wpS_of_wp ?_
  have lc : cb < w.heap.size := (Array.getElem?_eq_some_iff.1 hc).1
  have li : ib < w.heap.size := (Array.getElem?_eq_some_iff.1 hi).1
  obtain ⟨k0, k1, k2, k3⟩ := cells4 hc
  have f0 : ∀ i, w.frozen? ⟨cb, i, none⟩ = false := fun i => by simp [World.frozen?, hc]
  have g0 := f0 0; have g1 := f0 1; have g2 := f0 2; have g3 := f0 3
  have ki : w.cell? ⟨ib, 0, none⟩ = some x := by simp [World.cell?, hi]
  have gi : w.frozen? ⟨ib, 0, none⟩ = false := by simp [World.frozen?, hi]
  have HC := Lib.hid hc; have HI := Lib.hid hi; have HU := Lib.hid hu
  clear hc hi f0 hu
  generalize hQ : (fun (e : Exit) (a' : Act) (w' : World) => bodyPostS Tryz.prog Tryz.f60 c₀ cs _ e a' _ w') = Q
  have HQ := Lib.hid hQ
  clear hQ
  go_wp2
  rw [← HQ.out]
  clear HQ
  simp [bodyPostS, results, Tryz.results60, go_sem]
  have s4 : ((((w.setCell ⟨cb, 0, none⟩ (.int .u8 0)).setCell ⟨cb, 1, none⟩ (.int .i64 0)).setCell ⟨cb, 2, none⟩ (.int .i64 0)).setCell ⟨cb, 3, none⟩ (.int .i64 0)).heap.size = w.heap.size := by simp [World.size_setCell]
  refine ⟨?_, ?_, fun B h1 h2 h3 => ?_⟩
  · rw [Below.heap_alloc _ _ _ (by simp only [World.size_setCell]; exact lc), Below.heap_setCell _ _ _ _ (fun e => hne e)]
    exact set4_heap _ _ _ _ HC.out
  · rw [Below.heap_alloc _ _ _ (by simp only [World.size_setCell]; exact li)]
    simp only [World.setCell, Array.getElem?_modify]
    simp [HI.out, hne]
  · exact ((set4_below _ _ _ _ (Below.refl B w) h1).setCell (p := ⟨ib, 0, none⟩) h2 _).alloc (by rw [World.size_setCell, s4]; exact h3) _
end Go.Proofs.YtjkmdpejcgepkaaGreatDoor
/- read: the walk. -/
namespace Go.Proofs.YtjkmdpejcgepkaaGreatDoor
open Go.RowKit
def readC (o : Option (Int × Int × Int × Int)) : Value := match o with
  | some p => .tuple #[.agg #[.int .u8 p.1, .int .i64 p.2.1, .int .i64 p.2.2.1, .int .i64 p.2.2.2], .bool true]
  | none => .tuple #[.agg #[.int .u8 0, .int .i64 0, .int .i64 0, .int .i64 0], .bool false]
set_option maxHeartbeats 2000000 in
set_option maxRecDepth 100000 in
theorem read_any (cite : ByteArray) (w : World) (hl : cite.size ≤ 100000) (hg : Glob w) : Calls Tryz.prog 39 #[.string cite] w fun e w' => e = .returned (readC (parseC cite.data.toList)) ∧ Below w.heap.size w w' := by
  have hmf : ∀ (fn : Fn) (first cap : Array Value) (w : World), (Instr.makeFunc fn first cap).run Tryz.prog w = .ok (.func fn first cap) w := fun _ _ _ _ => rfl
  have hp := fun W (hG : Glob W) => parse_any cite W hl hG
  generalize parseC _ = o at hp ⊢
  have hb2 : Below w.heap.size w ((w.alloc (.cells #[.int .u8 0, .int .i64 0, .int .i64 0, .int .i64 0] 106)).alloc (.cells #[.bool false] 4)) := ((Below.refl _ w).alloc (Nat.le_refl _) _).alloc (by simp) _
  have hp1 := hp _ (hg.below hb2)
  clear hp
  have hh : ∀ w1, Below ((w.alloc (.cells #[.int .u8 0, .int .i64 0, .int .i64 0, .int .i64 0] 106)).alloc (.cells #[.bool false] 4)).heap.size ((w.alloc (.cells #[.int .u8 0, .int .i64 0, .int .i64 0, .int .i64 0] 106)).alloc (.cells #[.bool false] 4)) w1 →
      w1.heap[w.heap.size]? = some (.cells #[.int .u8 0, .int .i64 0, .int .i64 0, .int .i64 0] 106 (0, 0)) ∧ w1.heap[w.heap.size + 1]? = some (.cells #[.bool false] 4 (0, 0)) := fun w1 h => by
    refine ⟨?_, ?_⟩
    · rw [h.block _ (by simp; omega), Below.heap_alloc _ _ _ (by simp)]; exact World.alloc_heap_new w _
    · rw [h.block _ (by simp)]
      have k := World.alloc_heap_new (w.alloc (.cells #[.int .u8 0, .int .i64 0, .int .i64 0, .int .i64 0] 106)) (.cells #[.bool false] 4)
      rw [World.size_alloc] at k; exact k
  have HH := Lib.hid hh
  have HB2 := Lib.hid hb2
  clear hh hb2
  cases o with
  | none =>
    have hp2 := hp1.mono (R' := fun e w1 => e = .panicked [{ v := .iface 153 (.agg #[.string cite]), recovered := false }] ∧ Below _ _ w1) fun e w1 h => ⟨h.2, h.1⟩
    clear hp1
    go_enter_defers Tryz.func39, Tryz.ntmps39
    go_wp2_with (first | (go_at_call 61; refine hp2.mono ?_; rintro e w1 ⟨rfl, hb1⟩))
    obtain ⟨x1, x2⟩ := HH.out w1 hb1
    refine leaves_cons (f := 60) (args := #[.pointer (some ⟨w.heap.size, 0, none⟩), .pointer (some ⟨w.heap.size + 1, 0, none⟩)]) (by simp) (by simp [go_sem]) ?_
    refine (read1_catch w.heap.size (w.heap.size + 1) cite _ _ _ _ _ [] w1 x1 x2 (by omega)).mono ?_
    rintro e u' w'' ⟨rfl, rfl, h1, h2, h3⟩
    have hz := (HB2.out.go hb1).size
    have hfin := (HB2.out.go hb1).trans (h3 w.heap.size (Nat.le_refl _) (Nat.le_succ _) hz)
    obtain ⟨k0, k1, k2, k3⟩ := cells4 h1
    have k4 : w''.cell? ⟨w.heap.size + 1, 0, none⟩ = some (.bool false) := by simp [World.cell?, h2]
    clear h1 h2 h3 x1 x2 hb1 HH HB2
    simp [Leaves, settle, results, Tryz.results39, go_sem, k0, k1, k2, k3, k4, hfin, readC]
  | some p =>
    obtain ⟨p0, p1, p2, p3⟩ := p
    have hp2 := hp1.mono (R' := fun e w1 => e = .returned (.agg #[.int .u8 p0, .int .i64 p1, .int .i64 p2, .int .i64 p3]) ∧ Below _ _ w1) fun e w1 h => ⟨h.2, h.1⟩
    clear hp1
    go_enter_defers Tryz.func39, Tryz.ntmps39
    go_wp2_with (fail)
    refine hp2.mono ?_
    rintro e w1 ⟨rfl, hb1⟩
    obtain ⟨x1, x2⟩ := HH.out w1 hb1
    obtain ⟨k0, k1, k2, k3⟩ := cells4 x1
    have fz : ∀ i, w1.frozen? ⟨w.heap.size, i, none⟩ = false := fun i => by simp [World.frozen?, x1]
    have f0 := fz 0; have f1 := fz 1; have f2 := fz 2; have f3 := fz 3
    have k4 : w1.cell? ⟨w.heap.size + 1, 0, none⟩ = some (.bool false) := by simp [World.cell?, x2]
    have f4 : w1.frozen? ⟨w.heap.size + 1, 0, none⟩ = false := by simp [World.frozen?, x2]
    have X1 := Lib.hid x1; have X2 := Lib.hid x2; have HB1 := Lib.hid hb1
    clear x1 x2 hb1 fz
    go_wp2
    have hz := (HB2.out.go HB1.out).size
    have hfin := (set4_below (c := w.heap.size) (.int .u8 p0) (.int .i64 p1) (.int .i64 p2) (.int .i64 p3) (HB2.out.go HB1.out) (Nat.le_refl _)).setCell (p := ⟨w.heap.size + 1, 0, none⟩) (Nat.le_succ _) (.bool true)
    have y1 : (((((w1.setCell ⟨w.heap.size, 0, none⟩ (.int .u8 p0)).setCell ⟨w.heap.size, 1, none⟩ (.int .i64 p1)).setCell ⟨w.heap.size, 2, none⟩ (.int .i64 p2)).setCell ⟨w.heap.size, 3, none⟩ (.int .i64 p3)).setCell ⟨w.heap.size + 1, 0, none⟩ (.bool true)).heap[w.heap.size]? = some (.cells #[.int .u8 p0, .int .i64 p1, .int .i64 p2, .int .i64 p3] 106 (0, 0)) := by
      rw [Below.heap_setCell _ _ _ _ (fun e => by simp at e)]
      exact set4_heap _ _ _ _ X1.out
    have y2 : (((((w1.setCell ⟨w.heap.size, 0, none⟩ (.int .u8 p0)).setCell ⟨w.heap.size, 1, none⟩ (.int .i64 p1)).setCell ⟨w.heap.size, 2, none⟩ (.int .i64 p2)).setCell ⟨w.heap.size, 3, none⟩ (.int .i64 p3)).setCell ⟨w.heap.size + 1, 0, none⟩ (.bool true)).heap[w.heap.size + 1]? = some (.cells #[.bool true] 4 (0, 0)) := by
      simp only [World.setCell, Array.getElem?_modify]
      simp [X2.out]
    refine leaves_cons (f := 60) (args := #[.pointer (some ⟨w.heap.size, 0, none⟩), .pointer (some ⟨w.heap.size + 1, 0, none⟩)]) (by simp) (by simp [go_sem]) ?_
    refine (read1_idle _ _ _).mono ?_
    rintro e u' w'' ⟨rfl, rfl, rfl⟩
    clear k0 k1 k2 k3 k4 f0 f1 f2 f3 f4 X1 X2 HB1 HB2 HH
    generalize (((((w1.setCell ⟨w.heap.size, 0, none⟩ (.int .u8 p0)).setCell ⟨w.heap.size, 1, none⟩ (.int .i64 p1)).setCell ⟨w.heap.size, 2, none⟩ (.int .i64 p2)).setCell ⟨w.heap.size, 3, none⟩ (.int .i64 p3)).setCell ⟨w.heap.size + 1, 0, none⟩ (.bool true)) = w2 at y1 y2 hfin ⊢
    obtain ⟨k0, k1, k2, k3⟩ := cells4 y1
    have k4 : w2.cell? ⟨w.heap.size + 1, 0, none⟩ = some (.bool true) := by simp [World.cell?, y2]
    clear y1 y2
    simp [Leaves, settle, results, Tryz.results39, go_sem, k0, k1, k2, k3, k4, hfin, readC]
end Go.Proofs.YtjkmdpejcgepkaaGreatDoor
/- Resolve: what a citation is of. -/
namespace Go.Proofs.YtjkmdpejcgepkaaGreatDoor
open Go.RowKit
def lineAt (ht b c : Int) (p : Pr) : Int := (b - p.column) * ht + c - p.line
def hit (n ht st a b c : Int) (p : Pr) : Bool := (if st = 0 then withinB c 1 ht && withinB (lineAt ht b c p) 0 (p.lines - 1) else p.day == b && p.number == c) && a == n
def resolveR (n bd ht : Int) (pl : List Pr) (st a b c : Int) : Int × Int × Int := match pl.find? (hit n ht st a b c) with
  | none => (0, 0, 7)
  | some p => (p.anchor, bd, 0)
def resolveE (x : Vol) (errata : List Err) (cite : List UInt8) : Int × Int × Int :=
  if checkE x errata ≠ 0 then (0, 0, checkE x errata) else match parseC cite with
  | none => (0, 0, 4)
  | some q => if q.1 = 2 then (if (findE x errata q.2.1 q.2.2.1).2.2 ≠ 0 then (0, 0, (findE x errata q.2.1 q.2.2.1).2.2) else (q.2.1, q.2.2.1, 0)) else resolveR x.number x.bound x.height (printV x errata) q.1 q.2.1 q.2.2.1 q.2.2.2
def resolveV (p : Int × Int × Int) : Value := .tuple #[.int .i64 p.1, .int .i64 p.2.1, .int .i64 p.2.2]
theorem numOf_in {l : List UInt8} {v : Int} (h : numOf l = some v) : 0 ≤ v ∧ v ≤ 999999 := by
  unfold numOf at h
  split at h
  · split at h
    · cases h; exact ⟨(by assumption : _ ∧ _ ∧ _).2.1, (by assumption : _ ∧ _ ∧ _).2.2⟩
    · cases h
  · cases h
theorem numC_in {e r : List UInt8} {p : Int × List UInt8} (h : numC e r = some p) : 0 ≤ p.1 ∧ p.1 ≤ 999999 := by
  unfold numC at h
  split at h
  · cases h
  · obtain ⟨v, hv, rfl⟩ := Option.map_eq_some_iff.1 h
    exact numOf_in hv
theorem three_in {st : Int} {e1 e2 r : List UInt8} {q : Int × Int × Int × Int} (h : three st e1 e2 r = some q) : q.1 = st ∧ (0 ≤ q.2.1 ∧ q.2.1 ≤ 999999) ∧ (0 ≤ q.2.2.1 ∧ q.2.2.1 ≤ 999999) ∧ 0 ≤ q.2.2.2 ∧ q.2.2.2 ≤ 999999 := by
  unfold three at h
  obtain ⟨p, hp, h⟩ := Option.bind_eq_some_iff.1 h
  obtain ⟨p2, hp2, h⟩ := Option.bind_eq_some_iff.1 h
  obtain ⟨p3, hp3, rfl⟩ := Option.map_eq_some_iff.1 h
  exact ⟨rfl, numC_in hp, numC_in hp2, numC_in hp3⟩
theorem parseC_in {c : List UInt8} {q : Int × Int × Int × Int} (h : parseC c = some q) : (q.1 = 0 ∨ q.1 = 1 ∨ q.1 = 2) ∧ (0 ≤ q.2.1 ∧ q.2.1 ≤ 999999) ∧ (0 ≤ q.2.2.1 ∧ q.2.2.1 ≤ 999999) ∧ (0 ≤ q.2.2.2 ∧ q.2.2.2 ≤ 999999) ∧ (q.1 ≠ 0 → dayB q.2.2.1 = true) := by
  unfold parseC at h
  obtain ⟨p, hp, h⟩ := Option.bind_eq_some_iff.1 h
  have hq : p = q ∧ (p.1 ≠ 0 → dayB p.2.2.1 = true) := by
    split at h
    · cases h
    · rename_i hn
      cases h
      exact ⟨rfl, fun hne => by
        cases hd : dayB q.2.2.1
        · exact absurd ⟨hne, hd⟩ hn
        · rfl⟩
  obtain ⟨rfl, hd⟩ := hq
  unfold parse0 at hp
  split at hp
  · obtain ⟨p1, hp1, hp⟩ := Option.bind_eq_some_iff.1 hp
    obtain ⟨p2, hp2, rfl⟩ := Option.map_eq_some_iff.1 hp
    exact ⟨.inr (.inr rfl), numC_in hp1, numC_in hp2, ⟨Int.le_refl _, by show (0 : Int) ≤ 999999; decide⟩, hd⟩
  · split at hp
    · obtain ⟨h1, h2, h3, h4⟩ := three_in hp; exact ⟨.inl h1, h2, h3, h4, hd⟩
    · obtain ⟨h1, h2, h3, h4⟩ := three_in hp; exact ⟨.inr (.inl h1), h2, h3, h4, hd⟩
theorem mul_in {a b : Int} (h1 : -1000000000000 ≤ a) (h2 : a ≤ 1000000000000) (h3 : 0 ≤ b) (h4 : b ≤ 1000) : -1000000000000000 ≤ a * b ∧ a * b ≤ 1000000000000000 := by
  constructor
  · have e1 : -1000000000000 * b ≤ a * b := Int.mul_le_mul_of_nonneg_right h1 h3
    omega
  · have e1 : a * b ≤ 1000000000000 * b := Int.mul_le_mul_of_nonneg_right h2 h3
    omega
theorem lines_of {x : Vol} {errata : List Err} (h : checkE x errata = 0) {p : Pr} (hp : p ∈ printV x errata) : 1 ≤ p.lines ∧ p.lines ≤ 20 := by
  have hz := check_sizes h
  unfold printV at hp
  obtain ⟨i, hi, hp⟩ := printL_mem hp
  obtain ⟨-, -, -, -, -, -, -, e, he, hg, ha, hl⟩ := rowPr_mem (m := 200) (by omega) (by omega) (by omega) _ (fun e he => (textB_size (after_texts h x.bound e (List.mem_flatten.2 ⟨_, List.getElem_mem hi, he⟩))).2) (0, 0) ⟨by simp, by simp⟩ p hp
  have ht := textB_size (after_texts h x.bound e (List.mem_flatten.2 ⟨_, List.getElem_mem hi, he⟩))
  rw [hl]
  unfold linesOf
  constructor
  · have : 1 * x.width ≤ (e.text.size : Int) + x.width - 1 := by omega
    exact (Int.le_ediv_iff_mul_le (by omega)).2 this
  · have : (e.text.size : Int) + x.width - 1 < 21 * x.width := by omega
    have := (Int.ediv_lt_iff_lt_mul (show 0 < x.width by omega)).2 this
    omega
theorem pfind_at {pl : List Pr} {f : Pr → Bool} {k : Nat} (hk : k < pl.length) (h : f pl[k] = true) (hn : ∀ j (_ : j < pl.length), j < k → f pl[j] = false) : pl.find? f = some pl[k] := by
  rw [List.find?_eq_some_iff_getElem]
  exact ⟨h, k, hk, rfl, fun j hj => by simp [hn j (by omega) hj]⟩
theorem pfind_no {pl : List Pr} {f : Pr → Bool} (hn : ∀ j (_ : j < pl.length), j < pl.length → f pl[j] = false) : pl.find? f = none := by
  rw [List.find?_eq_none]
  intro p hp
  obtain ⟨j, hj, rfl⟩ := List.mem_iff_getElem.1 hp
  simp [hn j hj hj]
end Go.Proofs.YtjkmdpejcgepkaaGreatDoor
/- Resolve: the walk. -/
namespace Go.Proofs.YtjkmdpejcgepkaaGreatDoor
open Go.RowKit
theorem within_b (n lo hi : Int) (b : Bool) (h : withinB n lo hi = b) (w : World) : Calls Tryz.prog 40 #[.int .i64 n, .int .i64 lo, .int .i64 hi] w fun e w' => e = .returned (.bool b) ∧ w = w' := h ▸ within_any n lo hi w
def ResolvePost (w : World) (p : Int × Int × Int) (e : Ending) (w' : World) : Prop := e = .returned (resolveV p) ∧ Below w.heap.size w w'
set_option maxHeartbeats 8000000 in
set_option maxRecDepth 100000 in
theorem Resolve_any (v ev : Value) (x : Vol) (errata : List Err) (cite : ByteArray) (w : World) (hv : IsVol w v x) (hs : x.small) (he : RdE w ev errata) (hl : errata.length ≤ 1000) (hf : ∀ y ∈ errata, y.fits)
    (hcl : cite.size ≤ 100000) (hG : Glob w) :
    Calls Tryz.prog 21 #[v, ev, .string cite] w (ResolvePost w (resolveE x errata cite.data.toList)) := by
  obtain ⟨sv, rfl, A, c, rfl, hc, hm, hr⟩ := id hv
  obtain ⟨A0, c0, rfl, -⟩ := id he
  have hck : ∀ W, Below w.heap.size w W → Calls Tryz.prog 33 #[x.val (.slice A x.parts.length c), .slice A0 errata.length c0] W fun e w' => e = .returned (.int .i64 (checkE x errata)) ∧ Below W.heap.size W w' := fun W hW =>
    check_any _ _ x errata W (hv.below hW) hs (Rd.below he hW) (by omega) hf
  have hpr : checkE x errata = 0 → ∀ W, Below w.heap.size w W → Calls Tryz.prog 37 #[x.val (.slice A x.parts.length c), .slice A0 errata.length c0] W (PrintPost W (printV x errata)) := fun h0 W hW => by
    have hz := check_sizes h0
    exact print_any _ _ x errata W (hv.below hW) hs (Rd.below he hW) hl (fun y hy => ok_kind (List.all_eq_true.1 (checkE_ok h0).2.2.1 y hy)) (by omega) (by omega) (by omega) (by omega)
      (textsLe_of fun e hm => by have := textB_size (after_texts h0 x.bound e hm); omega)
  have hfi : ∀ a to W, Below w.heap.size w W → Calls Tryz.prog 23 #[x.val (.slice A x.parts.length c), .slice A0 errata.length c0, .int .i64 a, .int .i64 to] W fun e w' => e = .returned (findV (findE x errata a to)) ∧ Below W.heap.size W w' := fun a to W hW =>
    Find_any _ _ x errata a to W (hv.below hW) hs (Rd.below he hW) hl hf
  have hrd : ∀ W, Below w.heap.size w W → Calls Tryz.prog 39 #[.string cite] W fun e w' => e = .returned (readC (parseC cite.data.toList)) ∧ Below W.heap.size W w' := fun W hW => read_any cite W hcl (hG.below hW)
  have hmem : Hid (checkE x errata = 0 → ∀ p ∈ printV x errata, (1 ≤ p.column ∧ p.column ≤ 1000000000000 ∧ 1 ≤ p.line ∧ p.line ≤ x.height ∧ 0 ≤ p.day ∧ p.day ≤ 99999 ∧ 1 ≤ p.number ∧ p.number ≤ 2000) ∧ 1 ≤ p.lines ∧ p.lines ≤ 20) := Lib.hid fun h0 p hp => ⟨printV_mem h0 hs hl hp, lines_of h0 hp⟩
  have hnum : Hid (checkE x errata = 0 → 1 ≤ x.height ∧ x.height ≤ 60) := Lib.hid fun h0 => by have := check_sizes h0; omega
  have hpl := printV_le x errata hs hl
  have R : Hid (resolveV (resolveE x errata cite.data.toList) = resolveV (if checkE x errata ≠ 0 then (0, 0, checkE x errata) else match parseC cite.data.toList with
    | none => (0, 0, 4)
    | some q => if q.1 = 2 then (if (findE x errata q.2.1 q.2.2.1).2.2 ≠ 0 then (0, 0, (findE x errata q.2.1 q.2.2.1).2.2) else (q.2.1, q.2.2.1, 0)) else resolveR x.number x.bound x.height (printV x errata) q.1 q.2.1 q.2.2.1 q.2.2.2)) := Lib.hid rfl
  have hin := @parseC_in cite.data.toList
  clear hv hs hr hG
  show Calls _ _ _ _ fun e w' => e = .returned (resolveV (resolveE x errata cite.data.toList)) ∧ Below w.heap.size w w'
  have HFE : ∃ fe : Int → Int → ByteArray × Bool × Int, fe = fun a b => findE x errata a b := ⟨_, rfl⟩
  obtain ⟨fe, hfe⟩ := HFE
  have hfe' : ∀ a b, findE x errata a b = fe a b := fun a b => by rw [hfe]
  simp only [hfe'] at hfi R
  clear hfe hfe'
  obtain ⟨n0, n1, n2, n3, ps⟩ := x
  dsimp only [Vol.val] at hck hpr hfi R hc hm hpl hmem hnum ⊢
  generalize resolveV (resolveE _ _ _) = rl at R ⊢
  generalize printV _ _ = pl at R hpr hpl hmem
  generalize checkE _ _ = ck at hck hpr R hmem hnum
  generalize parseC _ = pc at R hrd hin
  have hB1 : Below w.heap.size w (w.alloc (.cells #[.int .i64 n0, .int .i64 n1, .int .i64 n2, .int .i64 n3, .slice A ps.length c] 37)) := (Below.refl _ _).alloc (Nat.le_refl _) _
  have hck1 := hck _ hB1
  clear hck
  have hvc : Hid (∀ W1 W2, Below (w.alloc (.cells #[.int .i64 n0, .int .i64 n1, .int .i64 n2, .int .i64 n3, .slice A ps.length c] 37)).heap.size (w.alloc (.cells #[.int .i64 n0, .int .i64 n1, .int .i64 n2, .int .i64 n3, .slice A ps.length c] 37)) W1 → Below W1.heap.size W1 W2 →
      w.heap.size < W2.heap.size ∧ W2.cell? ⟨w.heap.size, 0, none⟩ = some (.int .i64 n0) ∧ W2.cell? ⟨w.heap.size, 1, none⟩ = some (.int .i64 n1) ∧ W2.cell? ⟨w.heap.size, 2, none⟩ = some (.int .i64 n2) ∧ W2.cell? ⟨w.heap.size, 3, none⟩ = some (.int .i64 n3) ∧ W2.cell? ⟨w.heap.size, 4, none⟩ = some (.slice A ps.length c)) := Lib.hid fun W1 W2 h1 h2 => by
    have h3 := h1.go h2
    have hz := h3.size
    rw [World.size_alloc] at hz h3
    refine ⟨hz, ?_, ?_, ?_, ?_, ?_⟩ <;> (rw [h3.cell (p := ⟨w.heap.size, _, none⟩) (Nat.lt_succ_self _)]; simp [go_sem])
  by_cases h0 : ck = 0
  case neg =>
    have HL := Lib.hid (show rl = resolveV (0, 0, ck) by rw [R.out, if_pos h0])
    have h0' : (ck != 0) = true := by simpa using h0
    clear R hpr hfi hmem hnum hrd hin
    go_enter Tryz.func21, Tryz.ntmps21
    go_wp2_with (go_at_call 33; refine hck1.mono ?_; rintro e w1 ⟨rfl, hb1⟩)
    go_ret3
    exact ⟨by rw [HL.out]; rfl, hB1.go hb1⟩
  have h0' : (ck != 0) = false := by simpa using h0
  cases pc with
  | none =>
    have HL := Lib.hid (show rl = resolveV (0, 0, 4) by rw [R.out, if_neg (by simpa using h0)])
    clear R hpr hfi hmem hnum hin
    dsimp only [readC] at hrd
    go_enter Tryz.func21, Tryz.ntmps21
    go_wp2_with (first | (go_at_call 33; refine hck1.mono ?_; rintro e w1 ⟨rfl, hb1⟩) | (go_at_call 39; refine (hrd _ (hB1.go hb1)).mono ?_; rintro e w2 ⟨rfl, hb2⟩))
    go_ret3
    exact ⟨by rw [HL.out]; rfl, ((hB1.go hb1).go hb2).alloc (by have := hB1.size; have := hb1.size; have := hb2.size; omega) _⟩
  | some q =>
    obtain ⟨st, qa, qb, qc⟩ := q
    obtain ⟨i1, i2, i3, i4, i5⟩ := hin rfl
    dsimp only at i1 i2 i3 i4 i5 R
    dsimp only [readC] at hrd
    clear hin
    by_cases h2 : st = 2
    · subst h2
      have R2 : Hid (rl = resolveV (if (fe qa qb).2.2 ≠ 0 then (0, 0, (fe qa qb).2.2) else (qa, qb, 0))) := Lib.hid (by rw [R.out, if_neg (by simpa using h0)]; rfl)
      have hfi1 := hfi qa qb
      clear R hpr hfi hmem hnum i5
      generalize fe qa qb = f0 at hfi1 R2
      obtain ⟨ft, fg, fn⟩ := f0
      dsimp only [findV] at R2 hfi1
      by_cases hfn : fn = 0
      · have hfn' : (fn != 0) = false := by simpa using hfn
        have HL := Lib.hid (show rl = resolveV (qa, qb, 0) by rw [R2.out, if_neg (by simpa using hfn)])
        clear R2
        go_enter Tryz.func21, Tryz.ntmps21
        go_wp2_with (first | (go_at_call 33; refine hck1.mono ?_; rintro e w1 ⟨rfl, hb1⟩) | (go_at_call 39; refine (hrd _ (hB1.go hb1)).mono ?_; rintro e w2 ⟨rfl, hb2⟩; obtain ⟨x0, x1, x2, x3, x4, x5⟩ := hvc.out w1 w2 hb1 hb2; have HB := Lib.hid ((hB1.go hb1).go hb2); clear hck1 hrd hb1 hb2 hvc hB1))
        have HBB : Hid (Below w2.heap.size w2 ((w2.alloc (.cells #[.int .u8 2, .int .i64 qa, .int .i64 qb, .int .i64 qc] 106)).alloc (.cells #[.int .i64 qa, .int .i64 qb, .int .i64 qc] 69))) := Lib.hid (((Below.refl _ _).alloc (Nat.le_refl _) _).alloc (by simp) _)
        refine (hfi1 _ (HB.out.go HBB.out)).mono ?_
        rintro e w3 ⟨rfl, hb3⟩
        have y0 : w3.cell? ⟨w2.heap.size + 1, 0, none⟩ = some (.int .i64 qa) := by rw [hb3.cell (p := ⟨w2.heap.size + 1, 0, none⟩) (by simp)]; simp [go_sem]
        have y1 : w3.cell? ⟨w2.heap.size + 1, 1, none⟩ = some (.int .i64 qb) := by rw [hb3.cell (p := ⟨w2.heap.size + 1, 1, none⟩) (by simp)]; simp [go_sem]
        have HB3 := Lib.hid ((HB.out.go HBB.out).go hb3)
        clear hb3 HBB HB
        go_wp2
        go_quiet (skip)
        go_wp2
        go_ret3
        exact ⟨by rw [HL.out]; rfl, HB3.out.drewN _⟩
      · have hfn' : (fn != 0) = true := by simpa using hfn
        have HL := Lib.hid (show rl = resolveV (0, 0, fn) by rw [R2.out, if_pos hfn])
        clear R2 hfn
        go_enter Tryz.func21, Tryz.ntmps21
        go_wp2_with (first | (go_at_call 33; refine hck1.mono ?_; rintro e w1 ⟨rfl, hb1⟩) | (go_at_call 39; refine (hrd _ (hB1.go hb1)).mono ?_; rintro e w2 ⟨rfl, hb2⟩; obtain ⟨x0, x1, x2, x3, x4, x5⟩ := hvc.out w1 w2 hb1 hb2; have HB := Lib.hid ((hB1.go hb1).go hb2); clear hck1 hrd hb1 hb2 hvc hB1))
        have HBB : Hid (Below w2.heap.size w2 ((w2.alloc (.cells #[.int .u8 2, .int .i64 qa, .int .i64 qb, .int .i64 qc] 106)).alloc (.cells #[.int .i64 qa, .int .i64 qb, .int .i64 qc] 69))) := Lib.hid (((Below.refl _ _).alloc (Nat.le_refl _) _).alloc (by simp) _)
        refine (hfi1 _ (HB.out.go HBB.out)).mono ?_
        rintro e w3 ⟨rfl, hb3⟩
        have HB3 := Lib.hid ((HB.out.go HBB.out).go hb3)
        clear hb3 HBB HB
        go_wp2
        go_ret3
        exact ⟨by rw [HL.out]; rfl, HB3.out⟩
    · have R3 : Hid (rl = resolveV (resolveR n0 n1 n2 pl st qa qb qc)) := Lib.hid (by rw [R.out, if_neg (by simpa using h0)]; show resolveV (if st = 2 then _ else _) = _; rw [if_neg h2])
      have hs2 : (st == 2) = false := by simpa using h2
      have hpr0 := hpr h0
      have hmem0 := Lib.hid (hmem.out h0)
      obtain ⟨m1, m2⟩ := hnum.out h0
      clear R hpr hfi hmem hnum h0
      go_enter Tryz.func21, Tryz.ntmps21
      go_wp2_with (first | (go_at_call 33; refine hck1.mono ?_; rintro e w1 ⟨rfl, hb1⟩) | (go_at_call 39; refine (hrd _ (hB1.go hb1)).mono ?_; rintro e w2 ⟨rfl, hb2⟩; obtain ⟨x0, x1, x2, x3, x4, x5⟩ := hvc.out w1 w2 hb1 hb2; have HB := Lib.hid ((hB1.go hb1).go hb2); clear hck1 hrd hb1 hb2 hvc hB1))
      have HBB : Hid (Below w2.heap.size w2 ((w2.alloc (.cells #[.int .u8 st, .int .i64 qa, .int .i64 qb, .int .i64 qc] 106)).alloc (.cells #[.int .i64 qa, .int .i64 qb, .int .i64 qc] 69))) := Lib.hid (((Below.refl _ _).alloc (Nat.le_refl _) _).alloc (by simp) _)
      refine (hpr0 _ (HB.out.go HBB.out)).mono ?_
      rintro e w3 ⟨pv, rfl, hO, hb3⟩
      have HB3 := Lib.hid ((HB.out.go HBB.out).go hb3)
      have hz3 : w2.heap.size + 1 < w3.heap.size := by have h := hb3.size; rw [World.size_alloc, World.size_alloc] at h; omega
      have hvd : Hid (∀ W, Below w3.heap.size w3 W → (w.heap.size < W.heap.size ∧ W.cell? ⟨w.heap.size, 0, none⟩ = some (.int .i64 n0) ∧ W.cell? ⟨w.heap.size, 1, none⟩ = some (.int .i64 n1) ∧ W.cell? ⟨w.heap.size, 2, none⟩ = some (.int .i64 n2)) ∧
          w2.heap.size + 1 < W.heap.size ∧ W.cell? ⟨w2.heap.size, 0, none⟩ = some (.int .u8 st) ∧ W.cell? ⟨w2.heap.size + 1, 0, none⟩ = some (.int .i64 qa) ∧ W.cell? ⟨w2.heap.size + 1, 1, none⟩ = some (.int .i64 qb) ∧ W.cell? ⟨w2.heap.size + 1, 2, none⟩ = some (.int .i64 qc)) := Lib.hid fun W hW => by
        have h1 := HBB.out.go (hb3.go hW)
        have h2 := hb3.go hW
        have hz := hW.size
        refine ⟨⟨by omega, (h1.cell (p := ⟨w.heap.size, 0, none⟩) x0).trans x1, (h1.cell (p := ⟨w.heap.size, 1, none⟩) x0).trans x2, (h1.cell (p := ⟨w.heap.size, 2, none⟩) x0).trans x3⟩, by omega, ?_, ?_, ?_, ?_⟩
        · rw [h2.cell (p := ⟨w2.heap.size, 0, none⟩) (by simp; omega)]; simp [go_sem]
        · rw [h2.cell (p := ⟨w2.heap.size + 1, 0, none⟩) (by simp)]; simp [go_sem]
        · rw [h2.cell (p := ⟨w2.heap.size + 1, 1, none⟩) (by simp)]; simp [go_sem]
        · rw [h2.cell (p := ⟨w2.heap.size + 1, 2, none⟩) (by simp)]; simp [go_sem]
      have hR := hO.rd
      obtain ⟨A1, c1, rfl, hc1', hm1', hro⟩ := id hR
      clear hpr0 hb3 hO hR x0 x1 x2 x3 x4 x5 HB HBB
      go_wp2
      go_loopg [60] pl.length (fun gg s60 wr => ∃ kk : Nat, kk ≤ pl.length ∧ pl.length - kk ≤ gg ∧ s60 = .int .i64 kk ∧ Aside ((∀ j (_ : j < pl.length), j < kk → hit n0 n2 st qa qb qc pl[j] = false) ∧ Below w3.heap.size w3 wr))
      case atStart => exact ⟨0, Nat.zero_le _, by omega, rfl, fun j _ h => absurd h (Nat.not_lt_zero _), Below.refl _ _⟩
      case round =>
        obtain ⟨kk, hkk, hg, rfl, A2⟩ := hrel
        have hBw := A2.out.2
        have HNO := Lib.hid A2.out.1
        by_cases hlt : kk < pl.length
        · obtain ⟨b, off, rfl, hb, hr1⟩ := hro (by omega)
          clear hro
          have hc' := hr1.below hb hBw kk hlt
          have hmm := hmem0.out _ (List.getElem_mem hlt)
          have hbW : b < wr.heap.size := Nat.lt_of_lt_of_le hb hBw.size
          obtain ⟨⟨q0, q1, q2, q3⟩, q4, q5, q6, q7, q8⟩ := hvd.out wr hBw
          have q9 : w2.heap.size < wr.heap.size := by omega
          have HBw := Lib.hid hBw
          have hz := hBw.size
          have HIN : Hid (∀ cs t, Below w3.heap.size w3 (wr.alloc (.cells cs t))) := Lib.hid fun cs t => hBw.alloc hz _
          have HYES : Hid (hit n0 n2 st qa qb qc pl[kk] = true → rl = resolveV (pl[kk].anchor, n1, 0)) := Lib.hid fun hh => by rw [R3.out]; unfold resolveR; rw [pfind_at hlt hh HNO.out]
          have HN2 : Hid (hit n0 n2 st qa qb qc pl[kk] = false → ∀ j (_ : j < pl.length), j < kk + 1 → hit n0 n2 st qa qb qc pl[j] = false) := Lib.hid fun hh j hj hjk => by
            by_cases e : j = kk
            · subst e; exact hh
            · exact HNO.out j hj (by omega)
          clear A2 hr1 hBw HNO
          generalize pl[kk] = y at hc' hmm HYES HN2
          obtain ⟨y0, y1, y2, y3, y4, y5⟩ := y
          have d0 := hc' 0 _ rfl; have d1 := hc' 1 _ rfl; have d2 := hc' 2 _ rfl; have d3 := hc' 3 _ rfl; have d4 := hc' 4 _ rfl; have d5 := hc' 5 _ rfl
          clear hc'
          simp only [Nat.add_zero, show EPr.k = 6 from rfl] at d0 d1 d2 d3 d4 d5
          dsimp only at hmm HYES
          obtain ⟨⟨p1, p2, p3, p4, p5, p6, p7, p8⟩, p9, pA⟩ := hmm
          have hml := mul_in (a := qb - y1) (b := n2) (by omega) (by omega) (by omega) (by omega)
          obtain ⟨t1, t2⟩ := hml
          by_cases hs0 : st = 0
          · subst hs0
            cases hw1 : withinB qc 1 n2
            · have HN := Lib.hid (HN2.out (by unfold hit; rw [if_pos rfl, hw1]; rfl))
              clear HN2 HYES
              cases hd1 : (y4 == qb)
              all_goals
                go_wp2_with (first | (go_at_call 40; refine (within_any _ _ _ _).mono ?_; rintro e w' ⟨rfl, rfl⟩; first | rw [hw1] | rw [hw2]))
                go_roundg (pl.length - (kk + 1))
                case measure => exact measT hg hlt
                case rel => exact ⟨kk + 1, hlt, Nat.le_refl _, by go_num, HN.out, HIN.out _ _⟩
            cases hw2 : withinB ((qb - y1) * n2 + qc - y2) 0 (y3 - 1)
            · have HN := Lib.hid (HN2.out (by unfold hit lineAt; rw [if_pos rfl, hw1]; dsimp only; rw [hw2]; rfl))
              clear HN2 HYES
              cases hd1 : (y4 == qb)
              all_goals
                go_wp2_with (first | (go_at_call 40; refine (within_any _ _ _ _).mono ?_; rintro e w' ⟨rfl, rfl⟩; first | rw [hw1] | rw [hw2]))
                go_roundg (pl.length - (kk + 1))
                case measure => exact measT hg hlt
                case rel => exact ⟨kk + 1, hlt, Nat.le_refl _, by go_num, HN.out, HIN.out _ _⟩
            cases hd3 : (qa == n0)
            · have HN := Lib.hid (HN2.out (by unfold hit lineAt; rw [if_pos rfl, hw1]; dsimp only; rw [hw2, hd3]; rfl))
              clear HN2 HYES
              cases hd1 : (y4 == qb)
              all_goals
                go_wp2_with (first | (go_at_call 40; refine (within_any _ _ _ _).mono ?_; rintro e w' ⟨rfl, rfl⟩; first | rw [hw1] | rw [hw2]))
                go_roundg (pl.length - (kk + 1))
                case measure => exact measT hg hlt
                case rel => exact ⟨kk + 1, hlt, Nat.le_refl _, by go_num, HN.out, HIN.out _ _⟩
            · have HL := Lib.hid (HYES.out (by unfold hit lineAt; rw [if_pos rfl, hw1]; dsimp only; rw [hw2, hd3]; rfl))
              clear HN2 HYES
              cases hd1 : (y4 == qb)
              all_goals
                go_wp2_with (first | (go_at_call 40; refine (within_any _ _ _ _).mono ?_; rintro e w' ⟨rfl, rfl⟩; first | rw [hw1] | rw [hw2]))
                go_quiet (skip)
                go_wp2
                go_ret3
                exact ⟨by rw [HL.out]; rfl, (HB3.out.go (HIN.out _ _)).drewN _⟩
          · have hs0' : (st == 0) = false := by simpa using hs0
            cases hd1 : (y4 == qb)
            · have HN := Lib.hid (HN2.out (by unfold hit; rw [if_neg hs0]; dsimp only; rw [hd1]; rfl))
              clear HN2 HYES
              go_wp2
              go_roundg (pl.length - (kk + 1))
              case measure => exact measT hg hlt
              case rel => exact ⟨kk + 1, hlt, Nat.le_refl _, by go_num, HN.out, HIN.out _ _⟩
            cases hd2 : (y5 == qc)
            · have HN := Lib.hid (HN2.out (by unfold hit; rw [if_neg hs0]; dsimp only; rw [hd1, hd2]; rfl))
              clear HN2 HYES
              go_wp2
              go_roundg (pl.length - (kk + 1))
              case measure => exact measT hg hlt
              case rel => exact ⟨kk + 1, hlt, Nat.le_refl _, by go_num, HN.out, HIN.out _ _⟩
            cases hd3 : (qa == n0)
            · have HN := Lib.hid (HN2.out (by unfold hit; rw [if_neg hs0]; dsimp only; rw [hd1, hd2, hd3]; rfl))
              clear HN2 HYES
              go_wp2
              go_roundg (pl.length - (kk + 1))
              case measure => exact measT hg hlt
              case rel => exact ⟨kk + 1, hlt, Nat.le_refl _, by go_num, HN.out, HIN.out _ _⟩
            · have HL := Lib.hid (HYES.out (by unfold hit; rw [if_neg hs0]; dsimp only; rw [hd1, hd2, hd3]; rfl))
              clear HN2 HYES
              go_wp2
              go_quiet (skip)
              go_wp2
              go_ret3
              exact ⟨by rw [HL.out]; rfl, (HB3.out.go (HIN.out _ _)).drewN _⟩
        · have : kk = pl.length := by omega
          subst this
          have HL := Lib.hid (show rl = resolveV (0, 0, 7) by rw [R3.out]; unfold resolveR; rw [pfind_no HNO.out])
          have HBw := Lib.hid hBw
          clear A2 hro hBw
          go_wp2
          go_ret3
          exact ⟨by rw [HL.out]; rfl, HB3.out.go HBw.out⟩
end Go.Proofs.YtjkmdpejcgepkaaGreatDoor
