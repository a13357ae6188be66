/- A map[int]bool of the call's own, as the set of the numbers that were put into it. -/
import Derived.Test.YtjkmdpejcgepkaaGreatDoorB1
import Derived.Maps.OwnOps
import Derived.Maps.Views
namespace Go.Proofs.YtjkmdpejcgepkaaGreatDoor
open Go.RowKit
open Go.Maps (Keyed)
def i64Lit (x : Int) : Lit := .int .i64 x
def inI64 (x : Int) : Prop := (i64Lit x).wf = true
theorem inI64_of {x : Int} (h : -9223372036854775808 ≤ x) (h' : x ≤ 9223372036854775807) : inI64 x := WalkArith.wf_i64 ⟨h, h'⟩
def OwnSet (w : World) (b n : Nat) (acc : List Int) : Prop :=
  ∃ D : DataW Unit, w.ownsMap Tryz.prog 3 (plainElem Tryz.prog 4) b n D ∧ Maps.IsMap D ∧ ∀ x, inI64 x → D.atKey (i64Lit x) (.lit (.bool false)) = .lit (.bool (decide (x ∈ acc)))
theorem OwnSet.made (w : World) : OwnSet (w.alloc (.map #[] 0)) w.heap.size 0 [] :=
  ⟨.map [], World.ownsMap_made _ _ _ _, Maps.isMap_empty, fun x _ => by simp [DataW.atKey]⟩
theorem OwnSet.lt {w : World} {b n : Nat} {acc : List Int} (h : OwnSet w b n acc) : b < w.heap.size := by
  obtain ⟨D, h, _⟩ := h; exact h.lt
theorem OwnSet.grown {w w' : World} {b n : Nat} {acc : List Int} (h : OwnSet w b n acc) {row : Option Nat} (hg : w.grownBy w' row) (hne : some b ≠ row) : OwnSet w' b n acc := by
  obtain ⟨D, h, h1, h2⟩ := h; exact ⟨D, h.kept hg hne, h1, h2⟩
theorem OwnSet.below {w w' : World} {b n : Nat} {acc : List Int} (h : OwnSet w b n acc) (hb : Below w.heap.size w w') : OwnSet w' b n acc := h.grown (grownBy_of_below hb none) (by simp)
theorem OwnSet.alloc {w : World} {b n : Nat} {acc : List Int} (h : OwnSet w b n acc) (o : Obj) : OwnSet (w.alloc o) b n acc := h.grown (World.grownBy_alloc w o none) (by simp)
section
variable {w : World} {ops : Array Oper} {rest : List Oper} {o : Oper} {a : Act} {Q : Exit → Act → World → Prop}
theorem plainElem_bool_inv {H : Type} {P : Program} {e : TypeId} (he : P.underlying e = some .bool) {v : Value} {z : DataW H × List MemPlace} (h : plainElem P e v = some z) : ∃ x, v = .bool x ∧ z = (.lit (.bool x), []) := by
  unfold plainElem at h
  rw [he] at h
  cases v <;> simp at h
  exact ⟨_, rfl, h.symm⟩
theorem run_set_lookup {b n : Nat} {acc : List Int} (hown : OwnSet w b n acc) (x : Int) (hk : inI64 x) :
    (Instr.lookup 124 (.map (some b)) (.int .i64 x) false).run Tryz.prog w = .ok (.bool (decide (x ∈ acc))) w := by
  obtain ⟨D, h, h1, h2⟩ := hown
  obtain ⟨v, ps, hrun, hv⟩ := h.lookup (t := 124) (Maps.int_keyed Tryz.underlying3) Tryz.underlying124 (z := .bool false) (by kernel_rfl) (plainElem_bool Tryz.underlying4 false) (Maps.keyOf_int_mk Tryz.underlying3 (a := x) hk)
  have hv' : plainElem Tryz.prog 4 v = some ((.lit (.bool (decide (x ∈ acc))) : DataW Unit), ps) := by rw [← h2 x hk]; exact hv
  clear hv
  have hvv : v = .bool (decide (x ∈ acc)) := by
    obtain ⟨y, rfl, hy⟩ := plainElem_bool_inv Tryz.underlying4 hv'
    simp only [Prod.mk.injEq, DataW.lit.injEq, Lit.bool.injEq] at hy
    rw [hy.1]
  rw [hrun, hvv]
theorem wp_set_lookup (hg : o.guard = none) (m x : Operand) (hop : o.op = Op.lookup 124 m x false) (b n : Nat) (acc : List Int) (key : Int)
    (hm : a.eval m = .map (some b)) (hown : OwnSet w b n acc) (hx : a.eval x = .int .i64 key) (hk : inI64 key)
    (hK : wpList Tryz.prog ops Q rest (a.put o.dst (.bool (decide (key ∈ acc)))) w) : wpList Tryz.prog ops Q (o :: rest) a w := by
  refine wpList_plain hg fun K' hK' => ?_
  unfold Oper.wp
  simp [execOp, hop, hm, hx, run_set_lookup hown key hk, Result.andThen]
  exact hK' _ _ hK
theorem wp_set_put (hg : o.guard = none) (m x v : Operand) (hop : o.op = Op.mapUpdate 124 m x v) (b n : Nat) (acc : List Int) (key : Int)
    (hm : a.eval m = .map (some b)) (hown : OwnSet w b n acc) (hn : n < maxLen) (hx : a.eval x = .int .i64 key) (hv : a.eval v = .bool true) (hk : inI64 key)
    (hK : ∀ w', OwnSet w' b (n + 1) (key :: acc) → w.grownBy w' (some b) → wpList Tryz.prog ops Q rest (a.put o.dst undef) w') : wpList Tryz.prog ops Q (o :: rest) a w := by
  obtain ⟨D, h, h1, h2⟩ := hown
  refine wpList_mapUpdate_own w hg m x v 124 hop 3 4 (Maps.int_keyed Tryz.underlying3) Tryz.underlying124 _ b n D hm h hn _ _ (i64Lit key) hx hv (Maps.keyOf_int_mk Tryz.underlying3 hk) _ [] (plainElem_bool Tryz.underlying4 true) ?_
  intro w1 hown1 hg1
  refine hK w1 ⟨_, hown1, h1.put _ _, fun y hy => ?_⟩ hg1
  by_cases e : y = key
  · subst e
    rw [Maps.atKey_put_same (k := i64Lit y) h1 ((Maps.int_keyed Tryz.underlying3).key (Maps.keyOf_int_mk Tryz.underlying3 hk))]
    simp
  · rw [Maps.atKey_put_other (by unfold i64Lit; simpa using e), h2 y hy]
    simp [e]
end
end Go.Proofs.YtjkmdpejcgepkaaGreatDoor
