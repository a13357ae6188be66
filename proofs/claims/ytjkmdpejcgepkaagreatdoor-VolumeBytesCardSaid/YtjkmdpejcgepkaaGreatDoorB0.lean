/- Base words of the proofs over package volume: data, rows that are read, predicates as function values. -/
import Derived.Test.YtjkmdpejcgepkaaGreatDoorProg
import Derived.WalkKit
import Derived.KernelRfl
import Derived.Below
import Derived.Deep.LoopGhost
import Derived.Lib.Hide
import Derived.BigQuiet
import Derived.Deep.QuietTactic
import Derived.OwnWalk
import Derived.Shelf.Abstract
import Derived.Shelf.RegionOpen
import Derived.Lib.ConvBytes
import Derived.Maps.AppendAt
import Derived.Laws.AppendOwnNone
import Derived.Maps.OwnOps
import Derived.Maps.Views
namespace Go.Proofs.YtjkmdpejcgepkaaGreatDoor
open Go.RowKit

structure Err where
  number : Int
  day : Int
  kind : Int
  anchor : Int
  text : ByteArray
  new : Int
  deriving Inhabited
def Err.enc (x : Err) : List Value := [.int .i64 x.number, .int .i64 x.day, .int .u8 x.kind, .int .i64 x.anchor, .string x.text, .int .i64 x.new]

def Err.val (x : Err) : Value := .agg #[.int .i64 x.number, .int .i64 x.day, .int .u8 x.kind, .int .i64 x.anchor, .string x.text, .int .i64 x.new]

structure Para where
  anchor : Int
  text : ByteArray
  deriving Inhabited
def Para.enc (x : Para) : List Value := [.int .i64 x.anchor, .string x.text]

def Para.val (x : Para) : Value := .agg #[.int .i64 x.anchor, .string x.text]

def encB (c : UInt8) : List Value := [.int .u8 (c.toNat : Int)]

/-- cells of a row from an address on -/
def RowAt {α : Type} (enc : α → List Value) (k : Nat) (w : World) (b off : Nat) (xs : List α) : Prop :=
  ∀ j, (h : j < xs.length) → ∀ i u, (enc xs[j])[i]? = some u → w.cell? ⟨b, off + j * k + i, none⟩ = some u

/-- a slice that is read: nil or with an address -/
def Rd {α : Type} (enc : α → List Value) (k : Nat) (w : World) (v : Value) (xs : List α) : Prop :=
  ∃ A c, v = .slice A xs.length c ∧ xs.length ≤ c ∧ (xs.length : Int) ≤ 9223372036854775807 ∧ (0 < xs.length → ∃ b off, A = some ⟨b, off, none⟩ ∧ b < w.heap.size ∧ RowAt enc k w b off xs)

theorem RowAt.below {α : Type} {enc : α → List Value} {k : Nat} {w W : World} {b off : Nat} {xs : List α} (h : RowAt enc k w b off xs) (hb : b < w.heap.size) (hB : Below w.heap.size w W) : RowAt enc k W b off xs :=
  fun j hj i u hu => (hB.cell (p := ⟨b, off + j * k + i, none⟩) hb).trans (h j hj i u hu)

theorem Rd.below {α : Type} {enc : α → List Value} {k : Nat} {w W : World} {v : Value} {xs : List α} (h : Rd enc k w v xs) (hB : Below w.heap.size w W) : Rd enc k W v xs := by
  obtain ⟨A, c, rfl, hc, hm, h⟩ := h
  refine ⟨A, c, rfl, hc, hm, fun h0 => ?_⟩
  obtain ⟨b, off, rfl, hb, hr⟩ := h h0
  exact ⟨b, off, rfl, Nat.lt_of_lt_of_le hb hB.size, hr.below hb hB⟩

/-- a predicate as a function value, at the elements that are C: it may lay blocks, and turns nothing -/
def Pred (P : Program) (f : FuncId) (lb : Array Value) {α : Type} (enc : α → Value) (C : α → Prop) (p : α → Bool) (w : World) : Prop :=
  ∀ (W : World) (x : α), C x → Below w.heap.size w W → Calls P f (#[enc x] ++ lb) W fun e w' => e = .returned (.bool (p x)) ∧ Below W.heap.size W w'
theorem Pred.later {P : Program} {f : FuncId} {lb : Array Value} {α : Type} {enc : α → Value} {C : α → Prop} {p : α → Bool} {w w1 : World} (h : Pred P f lb enc C p w) (hB : Below w.heap.size w w1) : Pred P f lb enc C p w1 :=
  fun W x hx hW => h W x hx (hB.trans (hW.mono hB.size))
theorem _root_.Go.RowKit.Below.next {B : Nat} {w W W' : World} (h : Below B w W) (hB : B ≤ W.heap.size) (k : Below W.heap.size W W') : Below B w W' := h.trans (k.mono hB)
theorem _root_.Go.RowKit.Below.go {w W W' : World} (h : Below w.heap.size w W) (k : Below W.heap.size W W') : Below w.heap.size w W' := h.trans (k.mono h.size)

theorem bcell {W w1 : World} (hb : Below W.heap.size W w1) : (∀ b o, b < W.heap.size → w1.cell? ⟨b, o, none⟩ = W.cell? ⟨b, o, none⟩) ∧ (∀ b o, b < W.heap.size → w1.frozen? ⟨b, o, none⟩ = W.frozen? ⟨b, o, none⟩) :=
  ⟨fun b o h => hb.cell (p := ⟨b, o, none⟩) h, fun b o h => hb.frozen (p := ⟨b, o, none⟩) h⟩

def idxI {α : Type} (p : α → Bool) (xs : List α) : Int := match xs.findIdx? p with | some i => (i : Int) | none => -1
theorem idxI_hit {α : Type} {p : α → Bool} {xs : List α} {k : Nat} (hk : k < xs.length) (h : p xs[k] = true) (hn : ∀ j (h : j < xs.length), j < k → p xs[j] = false) : idxI p xs = k := by
  unfold idxI
  have : xs.findIdx? p = some k := by
    rw [List.findIdx?_eq_some_iff_getElem]
    exact ⟨hk, h, fun j hj => by simp [hn j (by omega) hj]⟩
  rw [this]
theorem idxI_miss {α : Type} {p : α → Bool} {xs : List α} (hn : ∀ j (h : j < xs.length), j < xs.length → p xs[j] = false) : idxI p xs = -1 := by
  unfold idxI
  have : xs.findIdx? p = none := by
    rw [List.findIdx?_eq_none_iff]
    intro x hx
    obtain ⟨i, hi, rfl⟩ := List.mem_iff_getElem.1 hx
    exact hn i hi hi
  rw [this]
theorem idxI_any {α : Type} (p : α → Bool) (xs : List α) : decide (0 ≤ idxI p xs) = xs.any p := by
  unfold idxI
  cases h : xs.findIdx? p with
  | none =>
    rw [List.findIdx?_eq_none_iff] at h
    simp only [List.any_eq_false.2 (fun x hx => by simpa using h x hx)]
    rfl
  | some i =>
    obtain ⟨hi, hp, _⟩ := List.findIdx?_eq_some_iff_getElem.1 h
    rw [List.any_eq_true.2 ⟨_, List.getElem_mem hi, hp⟩]
    simp
theorem idxI_lt {α : Type} (p : α → Bool) (xs : List α) : -1 ≤ idxI p xs ∧ idxI p xs < (xs.length : Int) + 1 := by
  unfold idxI
  cases h : xs.findIdx? p with
  | none => simp only; omega
  | some i =>
    obtain ⟨hi, _⟩ := List.findIdx?_eq_some_iff_getElem.1 h
    simp only; omega
theorem ret_int {k : IntKind} {a b : Int} (h : a = b) : Ending.returned (.int k a) = .returned (.int k b) := by rw [h]
theorem ret_bool {a b : Bool} (h : a = b) : Ending.returned (.bool a) = .returned (.bool b) := by rw [h]
end Go.Proofs.YtjkmdpejcgepkaaGreatDoor
/- Rows of the call's own, with elements of several cells; appending an element or a slice that is read. -/
namespace Go.Proofs.YtjkmdpejcgepkaaGreatDoor
open Go.RowKit

structure Enc (α : Type) where
  f : α → List Value
  k : Nat
  len : ∀ x, (f x).length = k
  one : ∀ x, ∀ u ∈ f x, u.oneCell' = true
  pos : 0 < k

def flat {α : Type} (E : Enc α) (xs : List α) : List Value := xs.flatMap E.f
theorem flat_nil {α : Type} (E : Enc α) : flat E [] = [] := rfl
theorem flat_cons {α : Type} (E : Enc α) (x : α) (xs : List α) : flat E (x :: xs) = E.f x ++ flat E xs := rfl
theorem flat_append {α : Type} (E : Enc α) (xs ys : List α) : flat E (xs ++ ys) = flat E xs ++ flat E ys := by simp [flat]
theorem flat_length {α : Type} (E : Enc α) (xs : List α) : (flat E xs).length = xs.length * E.k := by
  induction xs with
  | nil => simp [flat]
  | cons x xs ih => rw [flat_cons, List.length_append, ih, E.len, List.length_cons, Nat.add_mul, Nat.one_mul, Nat.add_comm]
theorem flat_one {α : Type} (E : Enc α) (xs : List α) : ∀ u ∈ flat E xs, u.oneCell' = true := by
  intro u hu
  obtain ⟨x, _, hx⟩ := List.mem_flatMap.1 hu
  exact E.one x u hx
theorem flat_get {α : Type} (E : Enc α) (xs : List α) (j i : Nat) (hj : j < xs.length) (hi : i < E.k) : (flat E xs)[j * E.k + i]? = (E.f xs[j])[i]? := by
  induction xs generalizing j with
  | nil => simp at hj
  | cons x xs ih =>
    rw [flat_cons]
    cases j with
    | zero =>
      rw [List.getElem?_append_left (by rw [E.len]; omega)]
      simp
    | succ j =>
      have hl := E.len x
      rw [List.getElem?_append_right (by rw [hl, Nat.add_mul]; omega), hl]
      have e : (j + 1) * E.k + i - E.k = j * E.k + i := by rw [Nat.add_mul]; omega
      rw [e, ih j (by simpa using hj)]
      simp

/-- a row of the call's own that holds xs -/
def Own {α : Type} (E : Enc α) (e : TypeId) (w : World) (base : Nat) (v : Value) (xs : List α) : Prop := w.ownsRow base e E.k v xs.length (flat E xs)
theorem Own.nil {α : Type} (E : Enc α) (e : TypeId) (w : World) (base : Nat) : Own E e w base (.slice none 0 0) [] := World.ownsRow_nil w base e E.k
theorem Own.alloc {α : Type} {E : Enc α} {e : TypeId} {w : World} {base : Nat} {v : Value} {xs : List α} (h : Own E e w base v xs) (o : Obj) : Own E e (w.alloc o) base v xs := World.ownsRow.alloc h o
theorem Own.drew {α : Type} {E : Enc α} {e : TypeId} {w : World} {base : Nat} {v : Value} {xs : List α} (h : Own E e w base v xs) : Own E e w.drew base v xs := h
theorem Own.lt {α : Type} {E : Enc α} {e : TypeId} {w : World} {base : Nat} {v : Value} {xs : List α} (h : Own E e w base v xs) : ∀ k, v.ownBlock = some k → base ≤ k ∧ k < w.heap.size := World.ownsRow.lt h
theorem Own.grown {α : Type} {E : Enc α} {e : TypeId} {w w' : World} {base : Nat} {v : Value} {xs : List α} (h : Own E e w base v xs) {row : Option Nat} (hg : w.grownBy w' row) (hne : v.ownBlock = none ∨ v.ownBlock ≠ row) : Own E e w' base v xs := World.ownsRow.kept h hg hne
theorem grownBy_of_below {w w' : World} (h : Below w.heap.size w w') (row : Option Nat) : w.grownBy w' row := ⟨h.os, h.tape, h.output, h.size, fun i hi _ => h.block i hi⟩
theorem Own.below {α : Type} {E : Enc α} {e : TypeId} {w w' : World} {base : Nat} {v : Value} {xs : List α} (h : Own E e w base v xs) (hb : Below w.heap.size w w') : Own E e w' base v xs :=
  h.grown (grownBy_of_below hb none) (by cases v.ownBlock <;> simp)
theorem Own.lower {α : Type} {E : Enc α} {e : TypeId} {w : World} {base base' : Nat} {v : Value} {xs : List α} (h : Own E e w base v xs) (hb : base' ≤ base) : Own E e w base' v xs := by
  obtain ⟨h1, h2⟩ := h
  refine ⟨h1, h2.imp id ?_⟩
  rintro ⟨g, cap, cur, hv, hg, rest⟩
  exact ⟨g, cap, cur, hv, Nat.le_trans hb hg, rest⟩
/-- an own row can be read -/
theorem Own.rd {α : Type} {E : Enc α} {e : TypeId} {w : World} {base : Nat} {v : Value} {xs : List α} (h : Own E e w base v xs) : Rd E.f E.k w v xs := by
  have hc := fun g (hg : v.ownBlock = some g) => World.ownsRow.cells h hg
  rcases h.2 with ⟨rfl, hn⟩ | ⟨g, cap, cur, rfl, hb, hh, h1, h2, h3, h4⟩
  · refine ⟨none, 0, by rw [hn], by omega, by omega, fun h0 => by omega⟩
  · refine ⟨_, cap, rfl, h1, by unfold maxLen at h2; omega, fun _ => ⟨g, 0, rfl, (Array.getElem?_eq_some_iff.1 hh).1, fun j hj i u hu => ?_⟩⟩
    have hi : i < E.k := by rw [← E.len xs[j]]; exact (List.getElem?_eq_some_iff.1 hu).1
    have := hc g rfl (j * E.k + i) u (by rw [flat_get E xs j i hj hi]; exact hu)
    have ha : (⟨g, 0, none⟩ : Addr).add (j * E.k + i) = ⟨g, 0 + j * E.k + i, none⟩ := by unfold Addr.add; split <;> simp_all
    rwa [ha] at this

theorem rd_flat {α : Type} {E : Enc α} {w : World} {b off : Nat} {xs : List α} (h : RowAt E.f E.k w b off xs) : ∀ j u, (flat E xs)[j]? = some u → w.cell? ((⟨b, off, none⟩ : Addr).add j) = some u := by
  intro j u hu
  have hj : j < xs.length * E.k := by rw [← flat_length]; exact (List.getElem?_eq_some_iff.1 hu).1
  have hp := E.pos
  have h1 : j / E.k < xs.length := Nat.div_lt_of_lt_mul (by rw [Nat.mul_comm]; exact hj)
  have h2 : j % E.k < E.k := Nat.mod_lt _ hp
  have e : j / E.k * E.k + j % E.k = j := by rw [Nat.mul_comm]; exact Nat.div_add_mod j E.k
  rw [← e, flat_get E xs _ _ h1 h2] at hu
  have := h _ h1 _ _ hu
  have ha : (⟨b, off, none⟩ : Addr).add j = ⟨b, off + j / E.k * E.k + j % E.k, none⟩ := by
    unfold Addr.add
    split
    · rename_i h0; subst h0; simp
    · rw [Nat.add_assoc, e]
  rw [ha]; exact this

section
variable {P : Program} {ops : Array Oper} {rest : List Oper} {o : Oper} {a : Act} {Q : Exit → Act → World → Prop}
theorem run_append_rd {α : Type} (E : Enc α) {W : World} (base : Nat) (t e ty : TypeId) (z : Value) (bytes : Nat)
    (ht : P.underlying t = some (.slice e)) (hinfo : (P.info? e).map (fun i => (i.zero, i.size, i.bytes)) = some (some z, E.k, bytes)) (hz : z.cells.size = E.k) (hb0 : 0 < bytes)
    (v sv : Value) (xs ys : List α) (HO : Own E e W base v xs) (HR : Rd E.f E.k W sv ys) (hbase : base ≤ W.heap.size)
    (hl : (xs.length + ys.length) * bytes ≤ 140737488355328) :
    ∃ v1 w1, (Builtin.append_ #[t, t] ty #[v, sv]).run P W = .ok v1 w1 ∧ Own E e w1 base v1 (xs ++ ys) ∧ W.grownBy w1 v.ownBlock ∧ Below base W w1 ∧ (v1.ownBlock = v.ownBlock ∨ v1.ownBlock = some W.heap.size) := by
  obtain ⟨i0, hi, hzz⟩ := Option.map_eq_some_iff.1 hinfo
  simp only [Prod.mk.injEq] at hzz
  obtain ⟨hz0, hz1, hz2⟩ := hzz
  have hlen : xs.length + ys.length ≤ 140737488355328 := Nat.le_trans (Nat.le_mul_of_pos_right _ hb0) hl
  have hrun : ∃ v1 w1, (Builtin.append_ #[t, t] ty #[v, sv]).run P W = .ok v1 w1 ∧ Own E e w1 base v1 (xs ++ ys) ∧ W.grownBy w1 v.ownBlock ∧ (v1.ownBlock = v.ownBlock ∨ v1.ownBlock = some W.heap.size) := by
    obtain ⟨A, c, rfl, hc, hm, hr⟩ := HR
    rcases A with _ | ad
    · have h0 : ys.length = 0 := by
        rcases Nat.eq_zero_or_pos ys.length with h0 | h0
        · exact h0
        · obtain ⟨b, off, h, _⟩ := hr h0
          cases h
      obtain rfl : ys = [] := List.eq_nil_of_length_eq_zero h0
      refine ⟨v, W, ?_, by simpa using HO, World.grownBy.refl W _, .inl rfl⟩
      rcases HO.2 with ⟨rfl, hn⟩ | ⟨g, cap, cur, rfl, _, _, hnc, _⟩
      · simp [Builtin.append_, run_underlying ht, sizeOf, typeInfo, hi, Builtin.lenOf, Builtin.firstCells]
      · simp [Builtin.append_, run_underlying ht, sizeOf, typeInfo, hi, Builtin.lenOf, Builtin.firstCells, hnc, storeCells]
    · have hcells : ∀ j u, (flat E ys)[j]? = some u → W.cell? (ad.add j) = some u := by
        intro j u hu
        have hp : 0 < ys.length := by
          rcases Nat.eq_zero_or_pos ys.length with h0 | h0
          · obtain rfl : ys = [] := List.eq_nil_of_length_eq_zero h0
            simp [flat] at hu
          · exact h0
        obtain ⟨b, off, h, _, hr'⟩ := hr hp
        injection h with h
        subst h
        exact rd_flat hr' j u hu
      obtain ⟨v1, w1, hrr, h2, h3, _, h5⟩ := run_append_own_at (P := P) W base t ty e i0 z E.k bytes ht hi hz0 hz1 hz2 hz E.pos v xs.length (flat E xs) HO ad ys.length c (flat E ys) (flat_length E ys) hcells
        (flat_one E ys) (by simp only [maxLen]; omega) hl hbase
      exact ⟨v1, w1, hrr, by unfold Own; rw [flat_append, List.length_append]; exact h2, h3, h5⟩
  obtain ⟨v1, w1, hr, hown, hg, hat⟩ := hrun
  exact ⟨v1, w1, hr, hown, hg, (Below.refl base W).grown hg hbase (fun k hk => (HO.lt k hk).1), hat⟩
/-- append(v, ys...), ys a slice that is read (nil let in) -/
theorem wp_append_rd {α : Type} (E : Enc α) {W : World} (base : Nat) (hgd : o.guard = none) (s x : Operand) (t e : TypeId) (z : Value) (bytes : Nat)
    (ho : o.op = .call { callee := .builtin .append, args := #[s, x], argTypes := #[t, t] })
    (ht : P.underlying t = some (.slice e)) (hinfo : (P.info? e).map (fun i => (i.zero, i.size, i.bytes)) = some (some z, E.k, bytes)) (hz : z.cells.size = E.k) (hb0 : 0 < bytes)
    (v sv : Value) (xs ys : List α) (hs : a.eval s = v) (hx : a.eval x = sv) (HO : Own E e W base v xs) (HR : Rd E.f E.k W sv ys) (hbase : base ≤ W.heap.size)
    (hl : (xs.length + ys.length) * bytes ≤ 140737488355328)
    (h : ∀ v1 w1, Own E e w1 base v1 (xs ++ ys) → W.grownBy w1 v.ownBlock → Below base W w1 → (v1.ownBlock = v.ownBlock ∨ v1.ownBlock = some W.heap.size) → wpList P ops Q rest (a.put o.dst v1) w1) :
    wpList P ops Q (o :: rest) a W := by
  obtain ⟨v1, w1, hr, hown, hg, hb, hat⟩ := run_append_rd E base t e o.type z bytes ht hinfo hz hb0 v sv xs ys HO HR hbase hl
  refine wpList_plain hgd fun K hK => ?_
  unfold Oper.wp execOp
  simp only [ho, resolve, invoke, builtin, Sem.run_bind, Sem.run_pure, Result.andThen_ok, List.map_toArray, List.map_cons, List.map_nil, hs, hx, hr]
  exact hK _ _ (h v1 w1 hown hg hb hat)

/-- append(v, y): the element stands in a new block of its own -/
theorem wp_append_one {α : Type} (E : Enc α) {W : World} (base : Nat) (hgd : o.guard = none) (s x : Operand) (t e e' : TypeId) (z : Value) (bytes : Nat) (cs : Array Value)
    (ho : o.op = .call { callee := .builtin .append, args := #[s, x], argTypes := #[t, t] })
    (ht : P.underlying t = some (.slice e)) (hinfo : (P.info? e).map (fun i => (i.zero, i.size, i.bytes)) = some (some z, E.k, bytes)) (hz : z.cells.size = E.k) (hb0 : 0 < bytes)
    (v : Value) (xs : List α) (y : α) (hcs : cs = (E.f y).toArray) (hs : a.eval s = v) (hx : a.eval x = .slice (some ⟨W.heap.size, 0, none⟩) 1 1) (HO : Own E e W base v xs) (hbase : base ≤ W.heap.size)
    (hl : (xs.length + 1) * bytes ≤ 140737488355328)
    (h : ∀ v1 w1, Own E e w1 base v1 (xs ++ [y]) → (W.alloc (.cells cs e')).grownBy w1 v.ownBlock → Below base W w1 → (v1.ownBlock = v.ownBlock ∨ v1.ownBlock = some (W.heap.size + 1)) → wpList P ops Q rest (a.put o.dst v1) w1) :
    wpList P ops Q (o :: rest) a (W.alloc (.cells cs e')) := by
  subst hcs
  have HR : Rd E.f E.k (W.alloc (.cells (E.f y).toArray e')) (.slice (some ⟨W.heap.size, 0, none⟩) 1 1) [y] := by
    refine ⟨_, 1, rfl, by simp, by simp, fun _ => ⟨_, _, rfl, by simp, fun j hj i u hu => ?_⟩⟩
    obtain rfl : j = 0 := by simpa using hj
    simp only [List.getElem_cons_zero] at hu
    rw [Nat.zero_mul, Nat.add_zero, Nat.zero_add, World.cell?_alloc_new]
    simpa using hu
  refine wp_append_rd E base hgd s x t e z bytes ho ht hinfo hz hb0 v _ xs [y] hs hx (HO.alloc _) HR (by simp; omega) (by simpa using hl) ?_
  intro v1 w1 h1 h2 h3 h4
  refine h v1 w1 h1 h2 (((Below.refl base W).alloc hbase _).trans h3) ?_
  rcases h4 with h4 | h4
  · exact .inl h4
  · exact .inr (by rw [h4]; simp)
end
end Go.Proofs.YtjkmdpejcgepkaaGreatDoor
/- A map[int]bool of the call's own, as the set of the numbers that were put into it. -/
namespace Go.Proofs.YtjkmdpejcgepkaaGreatDoor
open Go.RowKit
open Go.Maps (Keyed)
def i64Lit (x : Int) : Lit := .int .i64 x
def inI64 (x : Int) : Prop := (i64Lit x).wf = true
theorem inI64_of {x : Int} (h : -9223372036854775808 ≤ x) (h' : x ≤ 9223372036854775807) : inI64 x := WalkArith.wf_i64 ⟨h, h'⟩
def OwnSet (w : World) (b n : Nat) (acc : List Int) : Prop :=
  ∃ D : DataW Unit, w.ownsMap Tryz.prog 3 (plainElem Tryz.prog 4) b n D ∧ Maps.IsMap D ∧ ∀ x, inI64 x → D.atKey (i64Lit x) (.lit (.bool false)) = .lit (.bool (decide (x ∈ acc)))
theorem OwnSet.made (w : World) : OwnSet (w.alloc (.map #[] 0)) w.heap.size 0 [] :=
  ⟨.map [], World.ownsMap_made _ _ _ _, Maps.isMap_empty, fun x _ => by simp [DataW.atKey]⟩
theorem OwnSet.lt {w : World} {b n : Nat} {acc : List Int} (h : OwnSet w b n acc) : b < w.heap.size := by
  obtain ⟨D, h, _⟩ := h; exact h.lt
theorem OwnSet.grown {w w' : World} {b n : Nat} {acc : List Int} (h : OwnSet w b n acc) {row : Option Nat} (hg : w.grownBy w' row) (hne : some b ≠ row) : OwnSet w' b n acc := by
  obtain ⟨D, h, h1, h2⟩ := h; exact ⟨D, h.kept hg hne, h1, h2⟩
theorem OwnSet.below {w w' : World} {b n : Nat} {acc : List Int} (h : OwnSet w b n acc) (hb : Below w.heap.size w w') : OwnSet w' b n acc := h.grown (grownBy_of_below hb none) (by simp)
theorem OwnSet.alloc {w : World} {b n : Nat} {acc : List Int} (h : OwnSet w b n acc) (o : Obj) : OwnSet (w.alloc o) b n acc := h.grown (World.grownBy_alloc w o none) (by simp)
section
variable {w : World} {ops : Array Oper} {rest : List Oper} {o : Oper} {a : Act} {Q : Exit → Act → World → Prop}
theorem plainElem_bool_inv {H : Type} {P : Program} {e : TypeId} (he : P.underlying e = some .bool) {v : Value} {z : DataW H × List MemPlace} (h : plainElem P e v = some z) : ∃ x, v = .bool x ∧ z = (.lit (.bool x), []) := by
  unfold plainElem at h
  rw [he] at h
  cases v <;> simp at h
  exact ⟨_, rfl, h.symm⟩
theorem run_set_lookup {b n : Nat} {acc : List Int} (hown : OwnSet w b n acc) (x : Int) (hk : inI64 x) :
    (Instr.lookup 124 (.map (some b)) (.int .i64 x) false).run Tryz.prog w = .ok (.bool (decide (x ∈ acc))) w := by
  obtain ⟨D, h, h1, h2⟩ := hown
  obtain ⟨v, ps, hrun, hv⟩ := h.lookup (t := 124) (Maps.int_keyed Tryz.underlying3) Tryz.underlying124 (z := .bool false) (by kernel_rfl) (plainElem_bool Tryz.underlying4 false) (Maps.keyOf_int_mk Tryz.underlying3 (a := x) hk)
  have hv' : plainElem Tryz.prog 4 v = some ((.lit (.bool (decide (x ∈ acc))) : DataW Unit), ps) := by rw [← h2 x hk]; exact hv
  clear hv
  have hvv : v = .bool (decide (x ∈ acc)) := by
    obtain ⟨y, rfl, hy⟩ := plainElem_bool_inv Tryz.underlying4 hv'
    simp only [Prod.mk.injEq, DataW.lit.injEq, Lit.bool.injEq] at hy
    rw [hy.1]
  rw [hrun, hvv]
theorem wp_set_lookup (hg : o.guard = none) (m x : Operand) (hop : o.op = Op.lookup 124 m x false) (b n : Nat) (acc : List Int) (key : Int)
    (hm : a.eval m = .map (some b)) (hown : OwnSet w b n acc) (hx : a.eval x = .int .i64 key) (hk : inI64 key)
    (hK : wpList Tryz.prog ops Q rest (a.put o.dst (.bool (decide (key ∈ acc)))) w) : wpList Tryz.prog ops Q (o :: rest) a w := by
  refine wpList_plain hg fun K' hK' => ?_
  unfold Oper.wp
  simp [execOp, hop, hm, hx, run_set_lookup hown key hk, Result.andThen]
  exact hK' _ _ hK
theorem wp_set_put (hg : o.guard = none) (m x v : Operand) (hop : o.op = Op.mapUpdate 124 m x v) (b n : Nat) (acc : List Int) (key : Int)
    (hm : a.eval m = .map (some b)) (hown : OwnSet w b n acc) (hn : n < maxLen) (hx : a.eval x = .int .i64 key) (hv : a.eval v = .bool true) (hk : inI64 key)
    (hK : ∀ w', OwnSet w' b (n + 1) (key :: acc) → w.grownBy w' (some b) → wpList Tryz.prog ops Q rest (a.put o.dst undef) w') : wpList Tryz.prog ops Q (o :: rest) a w := by
  obtain ⟨D, h, h1, h2⟩ := hown
  refine wpList_mapUpdate_own w hg m x v 124 hop 3 4 (Maps.int_keyed Tryz.underlying3) Tryz.underlying124 _ b n D hm h hn _ _ (i64Lit key) hx hv (Maps.keyOf_int_mk Tryz.underlying3 hk) _ [] (plainElem_bool Tryz.underlying4 true) ?_
  intro w1 hown1 hg1
  refine hK w1 ⟨_, hown1, h1.put _ _, fun y hy => ?_⟩ hg1
  by_cases e : y = key
  · subst e
    rw [Maps.atKey_put_same (k := i64Lit y) h1 ((Maps.int_keyed Tryz.underlying3).key (Maps.keyOf_int_mk Tryz.underlying3 hk))]
    simp
  · rw [Maps.atKey_put_other (by unfold i64Lit; simpa using e), h2 y hy]
    simp [e]
end
end Go.Proofs.YtjkmdpejcgepkaaGreatDoor
