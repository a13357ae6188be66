/- Merge: two lists of errata as one. -/
import Derived.Test.YtjkmdpejcgepkaaGreatDoorC7
import Derived.Test.YtjkmdpejcgepkaaGreatDoorE5
import Derived.Test.YtjkmdpejcgepkaaGreatDoorB4
import Derived.Maps.OwnSet
import Derived.Lib.AppendZerosOnto
import Derived.Lib.SliceRun
namespace Go.Proofs.YtjkmdpejcgepkaaGreatDoor
open Go.RowKit
open Go.Maps (Keyed)
/-- a map[int]Erratum of the call's own: errata by their numbers -/
def heldR (v : Value) : Option (DataW Value × List MemPlace) := some (.held v, [])
def zeroEV : Value := .agg #[.int .i64 0, .int .i64 0, .int .u8 0, .int .i64 0, .string ⟨#[]⟩, .int .i64 0]
def byNum (l : List Err) (x : Int) : Option Err := l.find? fun y => y.number == x
def lookV (l : List Err) (x : Int) : Value := match byNum l x with
  | some y => y.val
  | none => zeroEV
def OwnMapE (w : World) (b n : Nat) (l : List Err) : Prop :=
  ∃ D : DataW Value, w.ownsMap Tryz.prog 3 heldR b n D ∧ Maps.IsMap D ∧ ∀ x, inI64 x → D.atKey (i64Lit x) (.held zeroEV) = .held (lookV l x) ∧ Maps.has D (i64Lit x) = (byNum l x).isSome
theorem OwnMapE.made (w : World) : OwnMapE (w.alloc (.map #[] 0)) w.heap.size 0 [] :=
  ⟨.map [], World.ownsMap_made _ _ _ _, Maps.isMap_empty, fun x _ => ⟨by simp [DataW.atKey, lookV, byNum], by simp [Maps.has, byNum]⟩⟩
theorem OwnMapE.lt {w : World} {b n : Nat} {l : List Err} (h : OwnMapE w b n l) : b < w.heap.size := by
  obtain ⟨D, h, _⟩ := h; exact h.lt
theorem OwnMapE.grown {w w' : World} {b n : Nat} {l : List Err} (h : OwnMapE w b n l) {row : Option Nat} (hg : w.grownBy w' row) (hne : some b ≠ row) : OwnMapE w' b n l := by
  obtain ⟨D, h, h1, h2⟩ := h; exact ⟨D, h.kept hg hne, h1, h2⟩
theorem OwnMapE.below {w w' : World} {b n : Nat} {l : List Err} (h : OwnMapE w b n l) (hb : Below w.heap.size w w') : OwnMapE w' b n l := h.grown (grownBy_of_below hb none) (by simp)
theorem OwnMapE.belowB {w w' : World} {b n B : Nat} {l : List Err} (h : OwnMapE w b n l) (hb : Below B w w') (hlt : b < B) : OwnMapE w' b n l := by
  obtain ⟨D, ⟨es, clock, h0, r⟩, h1, h2⟩ := h
  exact ⟨D, ⟨es, clock, (hb.block b hlt).trans h0, r⟩, h1, h2⟩
theorem OwnMapE.alloc {w : World} {b n : Nat} {l : List Err} (h : OwnMapE w b n l) (o : Obj) : OwnMapE (w.alloc o) b n l := h.grown (World.grownBy_alloc w o none) (by simp)
theorem OwnMapE.more {w : World} {b n m : Nat} {l : List Err} (h : OwnMapE w b n l) (hm : n ≤ m) : OwnMapE w b m l := by
  obtain ⟨D, h, r⟩ := h; exact ⟨D, h.mono hm, r⟩
theorem byNum_snoc (l : List Err) (y : Err) (x : Int) : byNum (l ++ [y]) x = (byNum l x).or (if y.number = x then some y else none) := by
  unfold byNum
  rw [List.find?_append]
  congr 1
  by_cases h : y.number = x
  · simp [h]
  · simp [h]
section
variable {w : World} {ops : Array Oper} {rest : List Oper} {o : Oper} {a : Act} {Q : Exit → Act → World → Prop}
theorem wp_err_lookup (hg : o.guard = none) (m x : Operand) (hop : o.op = Op.lookup 118 m x true) (b n : Nat) (l : List Err) (key : Int) (v : Value) (ok : Bool)
    (hm : a.eval m = .map (some b)) (hown : OwnMapE w b n l) (hx : a.eval x = .int .i64 key) (hk : inI64 key) (hv : lookV l key = v) (hok : (byNum l key).isSome = ok)
    (hK : wpList Tryz.prog ops Q rest (a.put o.dst (.tuple #[v, .bool ok])) w) : wpList Tryz.prog ops Q (o :: rest) a w := by
  obtain ⟨D, h, h1, h2⟩ := hown
  refine wpList_lookup_own_ok w hg m x 118 hop 3 77 (Maps.int_keyed Tryz.underlying3) Tryz.underlying118 heldR (z := zeroEV) (by kernel_rfl) (.held zeroEV) [] rfl b n D hm h _ (i64Lit key) hx (Maps.keyOf_int_mk Tryz.underlying3 hk) ?_
  intro u ps hu
  obtain ⟨e1, e2⟩ := h2 key hk
  rw [e1, hv] at hu
  simp only [heldR, Option.some.injEq, Prod.mk.injEq, DataW.held.injEq] at hu
  rw [hu.1, e2, hok]; exact hK
theorem wp_err_put (hg : o.guard = none) (m x v : Operand) (hop : o.op = Op.mapUpdate 118 m x v) (b n : Nat) (l : List Err) (y : Err)
    (hm : a.eval m = .map (some b)) (hown : OwnMapE w b n l) (hn : n < maxLen) (hx : a.eval x = .int .i64 y.number) (hv : a.eval v = y.val) (hk : inI64 y.number) (hno : byNum l y.number = none)
    (hK : ∀ w', OwnMapE w' b (n + 1) (l ++ [y]) → w.grownBy w' (some b) → wpList Tryz.prog ops Q rest (a.put o.dst undef) w') : wpList Tryz.prog ops Q (o :: rest) a w := by
  obtain ⟨D, h, h1, h2⟩ := hown
  refine wpList_mapUpdate_own w hg m x v 118 hop 3 77 (Maps.int_keyed Tryz.underlying3) Tryz.underlying118 heldR b n D hm h hn _ _ (i64Lit y.number) hx hv (Maps.keyOf_int_mk Tryz.underlying3 hk) (.held y.val) [] rfl ?_
  intro w1 hown1 hg1
  refine hK w1 ⟨_, hown1, h1.put _ _, fun x hx => ?_⟩ hg1
  unfold lookV
  rw [byNum_snoc]
  have hkey := (Maps.int_keyed Tryz.underlying3).key (Maps.keyOf_int_mk (a := y.number) Tryz.underlying3 hk)
  by_cases e : y.number = x
  · subst e
    rw [hno, if_pos rfl]
    exact ⟨Maps.atKey_put_same (k := i64Lit y.number) h1 hkey _ _, Maps.has_put_same (k := i64Lit y.number) h1 hkey _⟩
  · have hne : i64Lit x ≠ i64Lit y.number := by unfold i64Lit; simpa using fun h => e h.symm
    rw [if_neg e, Option.or_none, Maps.atKey_put_other hne, Maps.has_put_other hne]
    exact h2 x hx
end
def errEq (a b : Err) : Bool := a.number == b.number && a.day == b.day && a.kind == b.kind && a.anchor == b.anchor && a.text.toList == b.text.toList && a.new == b.new
def mergeS : List Err → List Err → Option (List Err)
  | acc, [] => some acc
  | acc, x :: r => match byNum acc x.number with
    | none => mergeS (acc ++ [x]) r
    | some y => if errEq x y = true then mergeS acc r else none
def mergeV (l : List Err) : List Err × Int := match mergeS [] l with
  | some acc => (sortE acc, 0)
  | none => ([], 6)
def MergePost (w : World) (l : List Err) (e : Ending) (w' : World) : Prop := ∃ v, e = .returned (.tuple #[v, .int .i64 (mergeV l).2]) ∧ Own EE 77 w' w.heap.size v (mergeV l).1 ∧ Below w.heap.size w w'
theorem Tryz.infoErr3 : (Tryz.prog.info? 77).map (fun i => (i.zero, i.size, i.bytes)) = some (some zeroEV, 6, 56) := by kernel_rfl
/-- Grow of nothing: a row of the call's own -/
theorem growE_any (n : Nat) (w : World) (hn : n ≤ 1000000) : Calls Tryz.prog 62 #[.slice none 0 0, .int .i64 n] w (OwnPost EE 77 w []) := by
  obtain ⟨i0, hi, hzz⟩ := Option.map_eq_some_iff.1 Tryz.infoErr3
  simp only [Prod.mk.injEq] at hzz
  obtain ⟨hz0, hz1, hz2⟩ := hzz
  by_cases h0 : n = 0
  · subst h0
    clear hi hz0 hz1 hz2
    go_enter Tryz.func62, Tryz.ntmps62
    go_wp2
    go_ret
    exact ⟨_, rfl, Own.nil _ _ _ _, Below.refl _ _⟩
  have hpos : (0 : Int) < (n : Int) := by omega
  have hneg : ¬ (n : Int) < 0 := by omega
  have hz3 : zeroEV.cells.size = 6 := rfl
  have hrz : ∀ ty, (Builtin.append_ #[39, 3] ty #[.slice none 0 0, .int .i64 n]).run Tryz.prog w = .ok (.slice (some ⟨w.heap.size, 0, none⟩) n (grownCap w n 0 77))
      (w.drew.alloc (.cells (([] : List Value).toArray ++ Builtin.zeroCells zeroEV.cells n ++ Builtin.zeroCells zeroEV.cells (grownCap w n 0 77 - n)) 77)) := fun ty => by
    have h := Lib.run_append_grow_zeros w 39 3 ty 77 i0 zeroEV .i64 .i64 Tryz.underlying39 Tryz.underlying3 hi hz0 none 0 0 [] (run_firstCells_none w.drew i0.size 0 0 0) n (by omega) (by omega) (by omega) (by omega) (by rw [hz2]; omega)
      (growslice_fits (by omega) (by rw [hz2]; omega))
    rw [Nat.zero_add] at h
    exact h
  have hGn : n ≤ grownCap w n 0 77 := grownCap_ge w _ _ _
  have hG63 := grownCap_le_maxLen w n 0 77 (by unfold maxLen; omega)
  generalize grownCap w n 0 77 = G at hrz hGn hG63
  have hGm : (G : Int) ≤ 9223372036854775807 := by unfold maxLen at hG63; omega
  obtain ⟨arr, harr⟩ : ∃ arr, (([] : List Value).toArray ++ Builtin.zeroCells zeroEV.cells n ++ Builtin.zeroCells zeroEV.cells (G - n)) = arr := ⟨_, rfl⟩
  rw [harr] at hrz
  have hsz : arr.size = G * 6 := by
    rw [← harr]
    simp only [Array.size_append, size_zeroCells, hz3, List.size_toArray, List.length_nil]
    omega
  have HO : Hid (OwnPost EE 77 w [] (.returned (.slice (some ⟨w.heap.size, 0, none⟩) 0 G)) (w.alloc (.cells arr 77)).drew) := Lib.hid
    ⟨_, rfl, (Own.of_flat (E := EE) (e := 77) (Nat.le_refl _) (World.alloc_heap_new w (.cells arr 77)) (Nat.zero_le _) hG63 hsz (fun j u hu => by simp [flat] at hu)).drew, ((Below.refl _ w).alloc (Nat.le_refl _) _).drew⟩
  clear hi hz0 hz1 hz2 hz3 h0 harr hsz
  generalize OwnPost EE 77 w [] = PP at HO ⊢
  go_enter Tryz.func62, Tryz.ntmps62
  go_wp2_with (at_builtin; refine Lib.wpList_append_run _ rfl _ _ _ _ rfl _ _ rfl rfl _ _ (hrz _) ?_)
  exact HO.out
def sumTo (a b : Nat) (k : Nat) : Nat := if k = 0 then 0 else if k = 1 then a else a + b
def preTo (la lb : List Err) (k : Nat) : List Err := if k = 0 then [] else if k = 1 then la else la ++ lb
set_option maxHeartbeats 2000000 in
theorem concatE_any (va vb : Value) (la lb : List Err) (bb : Nat) (w : World) (hc0 : w.cell? ⟨bb, 0, none⟩ = some va) (hc1 : w.cell? ⟨bb, 1, none⟩ = some vb) (ha : RdE w va la) (hb : RdE w vb lb) (hla : la.length ≤ 100000) (hlb : lb.length ≤ 100000) :
    Calls Tryz.prog 44 #[.slice (some ⟨bb, 0, none⟩) 2 2] w (OwnPost EE 77 w (la ++ lb)) := by
  obtain ⟨A0, c0, rfl, -⟩ := id ha
  obtain ⟨A1, c1, rfl, -⟩ := id hb
  have hbb := World.block_lt_of_cell? w _ hc0
  have HA := Lib.hid ha
  have HB := Lib.hid hb
  clear ha hb
  have HP : Hid (∀ v w', Own EE 77 w' w.heap.size v (la ++ lb) → Below w.heap.size w w' → OwnPost EE 77 w (la ++ lb) (.returned v) w') := Lib.hid fun v w' a b => ⟨v, rfl, a, b⟩
  generalize OwnPost EE 77 w (la ++ lb) = PP at HP ⊢
  go_enter Tryz.func44, Tryz.ntmps44
  go_wp2
  go_loopg [3, 11] 2 (fun gg s3 s11 wr => ∃ kk : Nat, kk ≤ 2 ∧ 2 - kk ≤ gg ∧ s11 = .int .i64 kk ∧ s3 = .int .i64 (sumTo la.length lb.length kk) ∧ Aside (wr = w))
  case atStart => exact ⟨0, Nat.zero_le _, by omega, rfl, rfl, rfl⟩
  case round =>
    obtain ⟨kk, hkk, hg, rfl, rfl, A2⟩ := hrel
    have hw := A2.out.symm
    clear A2
    subst hw
    rcases (show kk = 0 ∨ kk = 1 ∨ kk = 2 by omega) with rfl | rfl | rfl
    · have e0 : sumTo la.length lb.length 0 = 0 := rfl
      rw [e0]
      clear e0
      go_wp2
      go_roundg 1
      case measure => omega
      case rel => exact ⟨1, by omega, by omega, by go_num, by simp [sumTo], rfl⟩
    · have e0 : sumTo la.length lb.length 1 = la.length := rfl
      rw [e0]
      clear e0
      go_wp2
      go_roundg 0
      case measure => omega
      case rel => exact ⟨2, by omega, by omega, by go_num, by simp [sumTo], rfl⟩
    · have e0 : sumTo la.length lb.length 2 = la.length + lb.length := rfl
      rw [e0]
      clear e0
      go_wp2_with (fail)
      refine (growE_any (la.length + lb.length) _ (by omega)).mono ?_
      rintro e w1 ⟨v, rfl, hO, hB⟩
      obtain ⟨hcc, -⟩ := bcell hB
      have k0 := (hcc bb 0 hbb).trans hc0
      have k1 := (hcc bb 1 hbb).trans hc1
      have HC := Lib.hid (And.intro k0 k1)
      have hbb1 := Nat.lt_of_lt_of_le hbb hB.size
      clear hcc hc0 hc1 k0 k1
      have HB1 := Lib.hid hB
      have hz1 := hB.size
      clear hB
      go_wp2
      go_loopg [6, 27] 2 (fun gg s6 s27 wr => ∃ kk : Nat, kk ≤ 2 ∧ 2 - kk ≤ gg ∧ s27 = .int .i64 kk ∧ Aside (Own EE 77 wr w.heap.size s6 (preTo la lb kk) ∧ Below w.heap.size w wr ∧ wr.cell? ⟨bb, 0, none⟩ = some (.slice A0 la.length c0) ∧ wr.cell? ⟨bb, 1, none⟩ = some (.slice A1 lb.length c1)))
      case atStart => exact ⟨0, Nat.zero_le _, by omega, rfl, hO, HB1.out, HC.out.1, HC.out.2⟩
      case round =>
        obtain ⟨kk, hkk, hg, rfl, A2⟩ := hrel
        obtain ⟨hO2, hB2, q0, q1⟩ := A2.out
        clear A2 hO
        have hzr := hB2.size
        have HB2 := Lib.hid hB2
        clear hB2
        rcases (show kk = 0 ∨ kk = 1 ∨ kk = 2 by omega) with rfl | rfl | rfl
        · have hO3 : Own EE 77 wr w.heap.size u6 [] := hO2
          have hRA := Rd.below HA.out HB2.out
          clear hO2
          go_wp2_with (at_builtin; refine wp_append_rd EE w.heap.size rfl _ _ 39 77 _ 56 rfl Tryz.underlying39 Tryz.infoErr3 rfl (by decide) _ _ [] la rfl rfl hO3 hRA (by omega) (by simp; omega) ?_; intro v1 w2 hO4 hg4 hb4 hat4)
          go_roundg 1
          case measure => omega
          case rel => exact ⟨1, by omega, by omega, by go_num, (show Own EE 77 w2 w.heap.size v1 la by simpa using hO4), HB2.out.trans hb4, (hb4.cell (p := ⟨bb, 0, none⟩) hbb).trans q0, (hb4.cell (p := ⟨bb, 1, none⟩) hbb).trans q1⟩
        · have hO3 : Own EE 77 wr w.heap.size u6 la := hO2
          have hRA := Rd.below HB.out HB2.out
          clear hO2
          go_wp2_with (at_builtin; refine wp_append_rd EE w.heap.size rfl _ _ 39 77 _ 56 rfl Tryz.underlying39 Tryz.infoErr3 rfl (by decide) _ _ la lb rfl rfl hO3 hRA (by omega) (by omega) ?_; intro v1 w2 hO4 hg4 hb4 hat4)
          go_roundg 0
          case measure => omega
          case rel => exact ⟨2, by omega, by omega, by go_num, hO4, HB2.out.trans hb4, (hb4.cell (p := ⟨bb, 0, none⟩) hbb).trans q0, (hb4.cell (p := ⟨bb, 1, none⟩) hbb).trans q1⟩
        · have HF := Lib.hid (HP.out _ wr hO2 HB2.out)
          clear hO2
          go_wp2
          exact HF.out
theorem grown_below {w1 wr w' : World} {r : Option Nat} (h : w1.grownBy wr r) (hb : Below w1.heap.size wr w') : w1.grownBy w' r :=
  ⟨hb.os.trans h.os, hb.tape.trans h.tape, hb.output.trans h.output, Nat.le_trans h.size hb.size, fun i hi hne => (hb.block i hi).trans (h.block i hi hne)⟩
theorem grown_grown {w1 wr w' : World} {r : Option Nat} (h : w1.grownBy wr r) (hg : wr.grownBy w' r) : w1.grownBy w' r :=
  ⟨hg.os.trans h.os, hg.tape.trans h.tape, hg.output.trans h.output, Nat.le_trans h.size hg.size, fun i hi hne => (hg.block i (Nat.lt_of_lt_of_le hi h.size) hne).trans (h.block i hi hne)⟩
theorem cell_farE {w w' : World} {row : Option Nat} (hg : w.grownBy w' row) (a : Addr) (hlt : a.block < w.heap.size) (hne : some a.block ≠ row) : w'.cell? a = w.cell? a := by
  unfold World.cell?; rw [hg.block _ hlt hne]
theorem own_ne {w1 W : World} {v : Value} {xs : List Err} {mb : Nat} (h : Own EE 77 W w1.heap.size v xs) (hm : mb + 1 + 1 ≤ w1.heap.size) : v.ownBlock = none ∨ v.ownBlock ≠ some mb := by
  cases hv : v.ownBlock with
  | none => exact .inl rfl
  | some k =>
    right
    have := (h.lt k hv).1
    simp; omega
theorem cells_after2 {w w' : World} {cs : Array Value} {t : TypeId} {o : Obj} {mb : Nat} (hg : ((w.alloc (.cells cs t)).alloc o).grownBy w' (some mb)) (h : mb < w.heap.size) (i : Nat) : w'.cell? ⟨w.heap.size, i, none⟩ = cs[i]? := by
  rw [cell_farE hg ⟨w.heap.size, i, none⟩ (by simp; omega) (by simp; omega), ((Below.refl _ (w.alloc (.cells cs t))).alloc (Nat.le_refl _) o).cell (p := ⟨w.heap.size, i, none⟩) (by simp), World.cell?_alloc_new]
theorem grown_two {w1 w : World} {mb : Nat} (h : w1.grownBy w (some mb)) (o o' : Obj) : w1.grownBy ((w.alloc o).alloc o') (some mb) :=
  grown_grown h (grown_grown (World.grownBy_alloc w o (some mb)) (World.grownBy_alloc _ o' (some mb)))
theorem byNum_some {l : List Err} {x : Int} {z : Err} (h : byNum l x = some z) : z ∈ l ∧ z.number = x := ⟨List.mem_of_find?_eq_some h, by simpa using List.find?_some h⟩
set_option maxHeartbeats 16000000 in
set_option maxRecDepth 100000 in
theorem merge_any (va vb : Value) (la lb : List Err) (w : World) (ha : RdE w va la) (hb : RdE w vb lb) (hla : la.length ≤ 100000) (hlb : lb.length ≤ 100000) (hk : ∀ y ∈ la ++ lb, inI64 y.number) :
    Calls Tryz.prog 26 #[va, vb] w (MergePost w (la ++ lb)) := by
  obtain ⟨A0, c0, rfl, -⟩ := id ha
  obtain ⟨A1, c1, rfl, -⟩ := id hb
  have hll : (la ++ lb).length ≤ 200000 := by rw [List.length_append]; omega
  have HOK : Hid (∀ acc v w', mergeS [] (la ++ lb) = some acc → Own EE 77 w' w.heap.size v (sortE acc) → Below w.heap.size w w' → MergePost w (la ++ lb) (.returned (.tuple #[v, .int .i64 0])) w') := Lib.hid fun acc v w' a b c => by
    have e : mergeV (la ++ lb) = (sortE acc, 0) := by unfold mergeV; rw [a]
    exact ⟨v, by rw [e], by rw [e]; exact b, c⟩
  have HNO : Hid (∀ w', mergeS [] (la ++ lb) = none → Below w.heap.size w w' → MergePost w (la ++ lb) (.returned (.tuple #[.slice none 0 0, .int .i64 6])) w') := Lib.hid fun w' a c => by
    have e : mergeV (la ++ lb) = ([], 6) := by unfold mergeV; rw [a]
    exact ⟨.slice none 0 0, by rw [e], by rw [e]; exact Own.nil _ _ _ _, c⟩
  generalize MergePost w (la ++ lb) = PP at HOK HNO ⊢
  have hmm := @run_makeMap Tryz.prog
  have hBA : Below w.heap.size w ((w.alloc (.map #[] 0)).alloc (.cells #[.slice A0 la.length c0, .slice A1 lb.length c1] 39)) := ((Below.refl _ _).alloc (Nat.le_refl _) _).alloc (by simp) _
  have hM0 := (OwnMapE.made w).alloc (.cells #[.slice A0 la.length c0, .slice A1 lb.length c1] 39)
  have hco := concatE_any (.slice A0 la.length c0) (.slice A1 lb.length c1) la lb (w.heap.size + 1) ((w.alloc (.map #[] 0)).alloc (.cells #[.slice A0 la.length c0, .slice A1 lb.length c1] 39)) (by simp [go_sem]) (by simp [go_sem]) (Rd.below ha hBA) (Rd.below hb hBA) hla hlb
  clear ha hb hla hlb
  go_enter Tryz.func26, Tryz.ntmps26
  go_wp2_with (fail)
  refine hco.mono ?_
  clear hco
  generalize la ++ lb = l at *
  rintro e w1 ⟨vl, rfl, hO, hB⟩
  have hM1 := hM0.below hB
  have hBw := hBA.go hB
  have hz1 := hB.size
  simp only [World.size_alloc] at hO hz1
  clear hM0 hBA hB
  obtain ⟨A5, c5, rfl, hc5, hm5, hr5⟩ := id hO.rd
  have hlt5 := hO.lt
  clear hO
  have HBW := Lib.hid hBw
  clear hBw
  obtain ⟨mb, hmb⟩ : ∃ mb, w.heap.size = mb := ⟨_, rfl⟩
  have HMB := Lib.hid hmb
  have hmz : mb + 1 + 1 ≤ w1.heap.size := by omega
  rw [hmb] at hM1 ⊢
  have hlt5' : ∀ k, (Value.slice A5 l.length c5).ownBlock = some k → mb + 1 + 1 ≤ k := fun k h => by have := (hlt5 k h).1; omega
  have HBF : Hid (∀ W, w1.grownBy W (some mb) → Below w.heap.size w W) := Lib.hid fun W h => HBW.out.grown h HBW.out.size (fun k hk => by cases hk; exact Nat.le_of_eq HMB.out)
  clear hmb hz1 hlt5
  go_wp2
  go_loopg [7, 18] l.length (fun gg s7 s18 wr => ∃ kk : Nat, kk ≤ l.length ∧ l.length - kk ≤ gg ∧ s18 = .int .i64 kk ∧ Aside (∃ acc, OwnMapE wr mb kk acc ∧ Own EE 77 wr w1.heap.size s7 acc ∧ acc.length ≤ kk ∧ w1.grownBy wr (some mb) ∧ mergeS [] l = mergeS acc (l.drop kk)))
  case atStart => exact ⟨0, Nat.zero_le _, by omega, rfl, [], hM1, Own.nil _ _ _ _, Nat.le_refl _, World.grownBy.refl _ _, rfl⟩
  case round =>
    clear hM1
    obtain ⟨kk, hkk, hg, rfl, A2⟩ := hrel
    obtain ⟨acc, hM, hO, hal, hgr, hms⟩ := A2.out
    clear A2
    have hzr := hgr.size
    by_cases hlt : kk < l.length
    · obtain ⟨b, off, rfl, hb5, hrow⟩ := hr5 (by omega)
      have hbm : some b ≠ some mb := by
        have := hlt5' b rfl
        simp; omega
      clear hr5 hlt5'
      obtain ⟨y0, y1, y2, y3, y4, y5⟩ := err_cells hrow kk hlt
      rw [← cell_farE hgr ⟨b, _, none⟩ hb5 hbm] at y0 y1 y2 y3 y4 y5
      have hky := hk _ (List.getElem_mem hlt)
      have HDR := Lib.hid (List.drop_eq_getElem_cons hlt)
      clear hrow
      generalize l[kk] = y at y0 y1 y2 y3 y4 y5 hky HDR
      obtain ⟨a0, a1, a2, a3, a4, a5⟩ := y
      dsimp only at y0 y1 y2 y3 y4 y5 hky
      have i1 : (0 : Int) ≤ ↑kk := by omega
      have i2 : (kk : Int) < (l.length : Int) := by omega
      have hkm : kk < maxLen := by unfold maxLen; omega
      have HMS := Lib.hid hms
      have HGR := Lib.hid hgr
      have HO := Lib.hid hO
      have HM := Lib.hid hM
      have hmr : mb < wr.heap.size := by omega
      clear hms hgr hO hM hk hbm
      cases hno : byNum acc a0 with
      | none =>
        have HNO2 := Lib.hid hno
        have hlv : lookV acc a0 = .agg #[.int .i64 0, .int .i64 0, .int .u8 0, .int .i64 0, .string ⟨#[]⟩, .int .i64 0] := by unfold lookV; rw [hno]; rfl
        have hls : (byNum acc a0).isSome = false := by rw [hno]; rfl
        have HLV := Lib.hid hlv
        have HLS := Lib.hid hls
        clear hno hlv hls HNO
        go_wp2_with (first
          | (at_lookup; refine wp_err_lookup rfl _ _ rfl mb kk acc a0 (.agg #[.int .i64 0, .int .i64 0, .int .u8 0, .int .i64 0, .string ⟨#[]⟩, .int .i64 0]) false rfl (HM.out.alloc _) rfl hky HLV.out HLS.out ?_)
          | (at_mapUpdate; refine wp_err_put rfl _ _ _ rfl mb kk acc ⟨a0, a1, a2, a3, a4, a5⟩ rfl ((HM.out.alloc _).alloc _) hkm rfl rfl hky HNO2.out ?_; intro w2 hM2 hg2; have hc2 := cells_after2 hg2 hmr; have d0 := hc2 0; have d1 := hc2 1; have d2 := hc2 2; have d3 := hc2 3; have d4 := hc2 4; have d5 := hc2 5; simp at d0 d1 d2 d3 d4 d5; have hsz2 := hg2.size; simp only [World.size_alloc] at hsz2; have hz2 : w1.heap.size ≤ w2.heap.size := Nat.le_trans hzr (by omega); have hO2 := Lib.hid (((HO.out.alloc _).alloc _).grown hg2 (own_ne HO.out hmz)); clear hc2)
          | (at_builtin; refine wp_append_one EE w1.heap.size rfl _ _ 39 77 77 _ 56 (EE.f ⟨a0, a1, a2, a3, a4, a5⟩).toArray rfl Tryz.underlying39 Tryz.infoErr3 rfl (by decide) _ acc ⟨a0, a1, a2, a3, a4, a5⟩ rfl rfl rfl hO2.out hz2 (by omega) ?_; intro v1 w3 hO3 hg3 hb3 hat3))
        go_roundg (l.length - (kk + 1))
        case measure => exact measU hg hlt
        case rel =>
          have hg4 := grown_below (grown_grown (grown_two HGR.out _ _) hg2) hb3
          refine ⟨kk + 1, hlt, Nat.le_refl _, by go_num, acc ++ [⟨a0, a1, a2, a3, a4, a5⟩], hM2.belowB hb3 (by omega), hO3, by simp; omega, hg4, ?_⟩
          rw [HMS.out, HDR.out, mergeS]; dsimp only; rw [HNO2.out]
      | some z =>
        obtain ⟨-, hzn⟩ := byNum_some hno
        obtain ⟨z0, z1, z2, z3, z4, z5⟩ := z
        obtain rfl : z0 = a0 := hzn
        have hlv : lookV acc z0 = .agg #[.int .i64 z0, .int .i64 z1, .int .u8 z2, .int .i64 z3, .string z4, .int .i64 z5] := by unfold lookV; rw [hno]; rfl
        have hls : (byNum acc z0).isSome = true := by rw [hno]; rfl
        have HLV := Lib.hid hlv
        have HLS := Lib.hid hls
        have HEQ : Hid (errEq ⟨z0, a1, a2, a3, a4, a5⟩ ⟨z0, z1, z2, z3, z4, z5⟩ = true → mergeS [] l = mergeS acc (l.drop (kk + 1))) := Lib.hid fun h => by
          rw [HMS.out, HDR.out, mergeS]; dsimp only; rw [hno]; dsimp only; rw [if_pos h]
        have HNE : Hid (errEq ⟨z0, a1, a2, a3, a4, a5⟩ ⟨z0, z1, z2, z3, z4, z5⟩ = false → ∀ W, w1.grownBy W (some mb) → PP (.returned (.tuple #[.slice none 0 0, .int .i64 6])) W) := Lib.hid fun h W hW => HNO.out W (by
          rw [HMS.out, HDR.out, mergeS]; dsimp only; rw [hno]; dsimp only; rw [if_neg (by rw [h]; decide)]) (HBF.out W hW)
        clear hno hlv hls HNO HDR HMS
        by_cases f1 : a1 = z1
        case neg =>
          have HF := Lib.hid fun o o' => HNE.out (by unfold errEq; simp [f1]) _ (grown_two HGR.out o o'); clear HEQ HNE
          go_wp2_with (at_lookup; refine wp_err_lookup rfl _ _ rfl mb kk acc z0 (.agg #[.int .i64 z0, .int .i64 z1, .int .u8 z2, .int .i64 z3, .string z4, .int .i64 z5]) true rfl (HM.out.alloc _) rfl hky HLV.out HLS.out ?_)
          exact HF.out _ _
        case pos =>
          by_cases f2 : a2 = z2
          case neg =>
            have HF := Lib.hid fun o o' => HNE.out (by unfold errEq; simp [f1, f2]) _ (grown_two HGR.out o o'); clear HEQ HNE
            go_wp2_with (at_lookup; refine wp_err_lookup rfl _ _ rfl mb kk acc z0 (.agg #[.int .i64 z0, .int .i64 z1, .int .u8 z2, .int .i64 z3, .string z4, .int .i64 z5]) true rfl (HM.out.alloc _) rfl hky HLV.out HLS.out ?_)
            exact HF.out _ _
          case pos =>
            by_cases f3 : a3 = z3
            case neg =>
              have HF := Lib.hid fun o o' => HNE.out (by unfold errEq; simp [f1, f2, f3]) _ (grown_two HGR.out o o'); clear HEQ HNE
              go_wp2_with (at_lookup; refine wp_err_lookup rfl _ _ rfl mb kk acc z0 (.agg #[.int .i64 z0, .int .i64 z1, .int .u8 z2, .int .i64 z3, .string z4, .int .i64 z5]) true rfl (HM.out.alloc _) rfl hky HLV.out HLS.out ?_)
              exact HF.out _ _
            case pos =>
              by_cases f4 : a4.toList = z4.toList
              case neg =>
                have HF := Lib.hid fun o o' => HNE.out (by unfold errEq; simp [f1, f2, f3, f4]) _ (grown_two HGR.out o o'); clear HEQ HNE
                go_wp2_with (at_lookup; refine wp_err_lookup rfl _ _ rfl mb kk acc z0 (.agg #[.int .i64 z0, .int .i64 z1, .int .u8 z2, .int .i64 z3, .string z4, .int .i64 z5]) true rfl (HM.out.alloc _) rfl hky HLV.out HLS.out ?_)
                exact HF.out _ _
              case pos =>
                by_cases f5 : a5 = z5
                case neg =>
                  have HF := Lib.hid fun o o' => HNE.out (by unfold errEq; simp [f1, f2, f3, f4, f5]) _ (grown_two HGR.out o o'); clear HEQ HNE
                  go_wp2_with (at_lookup; refine wp_err_lookup rfl _ _ rfl mb kk acc z0 (.agg #[.int .i64 z0, .int .i64 z1, .int .u8 z2, .int .i64 z3, .string z4, .int .i64 z5]) true rfl (HM.out.alloc _) rfl hky HLV.out HLS.out ?_)
                  exact HF.out _ _
                case pos =>
                  have HF := Lib.hid (HEQ.out (by unfold errEq; simp [f1, f2, f3, f4, f5])); clear HEQ HNE
                  go_wp2_with (at_lookup; refine wp_err_lookup rfl _ _ rfl mb kk acc z0 (.agg #[.int .i64 z0, .int .i64 z1, .int .u8 z2, .int .i64 z3, .string z4, .int .i64 z5]) true rfl (HM.out.alloc _) rfl hky HLV.out HLS.out ?_)
                  go_roundg (l.length - (kk + 1))
                  case measure => exact measU hg hlt
                  case rel => exact ⟨kk + 1, hlt, Nat.le_refl _, by go_num, acc, ((HM.out.alloc _).alloc _).more (Nat.le_succ _), (HO.out.alloc _).alloc _, by omega, grown_two HGR.out _ _, HF.out⟩
    · have : kk = l.length := Nat.le_antisymm hkk (Nat.le_of_not_lt hlt)
      subst this
      have hso := sort_any _ acc wr w1.heap.size hO (by omega)
      have HMS : Hid (mergeS [] l = some acc) := Lib.hid (by rw [hms, List.drop_length]; rfl)
      have HGR := Lib.hid hgr
      have hbs : w.heap.size ≤ w1.heap.size := HBW.out.size
      clear hr5 hlt5' hms hgr hO hM hk HNO
      go_wp2_with (fail)
      refine hso.mono ?_
      rintro e w2 ⟨rfl, hO2, hb2⟩
      have HF := Lib.hid (HOK.out acc _ w2 HMS.out (hO2.lower hbs) ((HBF.out _ HGR.out).trans (hb2.mono hbs)))
      clear hso hO2 hb2
      go_wp2
      exact HF.out
end Go.Proofs.YtjkmdpejcgepkaaGreatDoor
