/- Base words of the proofs over package volume: data, rows that are read, predicates as function values. -/
import Derived.Test.YtjkmdpejcgepkaaGreatDoorProg
import Derived.WalkKit
import Derived.KernelRfl
import Derived.Below
import Derived.Deep.LoopGhost
import Derived.Lib.Hide
import Derived.BigQuiet
import Derived.Deep.QuietTactic
import Derived.OwnWalk
import Derived.Shelf.Abstract
import Derived.Shelf.RegionOpen
import Derived.Lib.ConvBytes
namespace Go.Proofs.YtjkmdpejcgepkaaGreatDoor
open Go.RowKit

structure Err where
  number : Int
  day : Int
  kind : Int
  anchor : Int
  text : ByteArray
  new : Int
  deriving Inhabited
def Err.enc (x : Err) : List Value := [.int .i64 x.number, .int .i64 x.day, .int .u8 x.kind, .int .i64 x.anchor, .string x.text, .int .i64 x.new]

def Err.val (x : Err) : Value := .agg #[.int .i64 x.number, .int .i64 x.day, .int .u8 x.kind, .int .i64 x.anchor, .string x.text, .int .i64 x.new]

structure Para where
  anchor : Int
  text : ByteArray
  deriving Inhabited
def Para.enc (x : Para) : List Value := [.int .i64 x.anchor, .string x.text]

def Para.val (x : Para) : Value := .agg #[.int .i64 x.anchor, .string x.text]

def encB (c : UInt8) : List Value := [.int .u8 (c.toNat : Int)]

/-- cells of a row from an address on -/
def RowAt {α : Type} (enc : α → List Value) (k : Nat) (w : World) (b off : Nat) (xs : List α) : Prop :=
  ∀ j, (h : j < xs.length) → ∀ i u, (enc xs[j])[i]? = some u → w.cell? ⟨b, off + j * k + i, none⟩ = some u

/-- a slice that is read: nil or with an address -/
def Rd {α : Type} (enc : α → List Value) (k : Nat) (w : World) (v : Value) (xs : List α) : Prop :=
  ∃ A c, v = .slice A xs.length c ∧ xs.length ≤ c ∧ (xs.length : Int) ≤ 9223372036854775807 ∧ (0 < xs.length → ∃ b off, A = some ⟨b, off, none⟩ ∧ b < w.heap.size ∧ RowAt enc k w b off xs)

theorem RowAt.below {α : Type} {enc : α → List Value} {k : Nat} {w W : World} {b off : Nat} {xs : List α} (h : RowAt enc k w b off xs) (hb : b < w.heap.size) (hB : Below w.heap.size w W) : RowAt enc k W b off xs :=
  fun j hj i u hu => (hB.cell (p := ⟨b, off + j * k + i, none⟩) hb).trans (h j hj i u hu)

theorem Rd.below {α : Type} {enc : α → List Value} {k : Nat} {w W : World} {v : Value} {xs : List α} (h : Rd enc k w v xs) (hB : Below w.heap.size w W) : Rd enc k W v xs := by
  obtain ⟨A, c, rfl, hc, hm, h⟩ := h
  refine ⟨A, c, rfl, hc, hm, fun h0 => ?_⟩
  obtain ⟨b, off, rfl, hb, hr⟩ := h h0
  exact ⟨b, off, rfl, Nat.lt_of_lt_of_le hb hB.size, hr.below hb hB⟩

/-- a predicate as a function value, at the elements that are C: it may lay blocks, and turns nothing -/
def Pred (P : Program) (f : FuncId) (lb : Array Value) {α : Type} (enc : α → Value) (C : α → Prop) (p : α → Bool) (w : World) : Prop :=
  ∀ (W : World) (x : α), C x → Below w.heap.size w W → Calls P f (#[enc x] ++ lb) W fun e w' => e = .returned (.bool (p x)) ∧ Below W.heap.size W w'
theorem Pred.later {P : Program} {f : FuncId} {lb : Array Value} {α : Type} {enc : α → Value} {C : α → Prop} {p : α → Bool} {w w1 : World} (h : Pred P f lb enc C p w) (hB : Below w.heap.size w w1) : Pred P f lb enc C p w1 :=
  fun W x hx hW => h W x hx (hB.trans (hW.mono hB.size))
theorem _root_.Go.RowKit.Below.next {B : Nat} {w W W' : World} (h : Below B w W) (hB : B ≤ W.heap.size) (k : Below W.heap.size W W') : Below B w W' := h.trans (k.mono hB)
theorem _root_.Go.RowKit.Below.go {w W W' : World} (h : Below w.heap.size w W) (k : Below W.heap.size W W') : Below w.heap.size w W' := h.trans (k.mono h.size)

theorem bcell {W w1 : World} (hb : Below W.heap.size W w1) : (∀ b o, b < W.heap.size → w1.cell? ⟨b, o, none⟩ = W.cell? ⟨b, o, none⟩) ∧ (∀ b o, b < W.heap.size → w1.frozen? ⟨b, o, none⟩ = W.frozen? ⟨b, o, none⟩) :=
  ⟨fun b o h => hb.cell (p := ⟨b, o, none⟩) h, fun b o h => hb.frozen (p := ⟨b, o, none⟩) h⟩

def idxI {α : Type} (p : α → Bool) (xs : List α) : Int := match xs.findIdx? p with | some i => (i : Int) | none => -1
theorem idxI_hit {α : Type} {p : α → Bool} {xs : List α} {k : Nat} (hk : k < xs.length) (h : p xs[k] = true) (hn : ∀ j (h : j < xs.length), j < k → p xs[j] = false) : idxI p xs = k := by
  unfold idxI
  have : xs.findIdx? p = some k := by
    rw [List.findIdx?_eq_some_iff_getElem]
    exact ⟨hk, h, fun j hj => by simp [hn j (by omega) hj]⟩
  rw [this]
theorem idxI_miss {α : Type} {p : α → Bool} {xs : List α} (hn : ∀ j (h : j < xs.length), j < xs.length → p xs[j] = false) : idxI p xs = -1 := by
  unfold idxI
  have : xs.findIdx? p = none := by
    rw [List.findIdx?_eq_none_iff]
    intro x hx
    obtain ⟨i, hi, rfl⟩ := List.mem_iff_getElem.1 hx
    exact hn i hi hi
  rw [this]
theorem idxI_any {α : Type} (p : α → Bool) (xs : List α) : decide (0 ≤ idxI p xs) = xs.any p := by
  unfold idxI
  cases h : xs.findIdx? p with
  | none =>
    rw [List.findIdx?_eq_none_iff] at h
    simp only [List.any_eq_false.2 (fun x hx => by simpa using h x hx)]
    rfl
  | some i =>
    obtain ⟨hi, hp, _⟩ := List.findIdx?_eq_some_iff_getElem.1 h
    rw [List.any_eq_true.2 ⟨_, List.getElem_mem hi, hp⟩]
    simp
theorem idxI_lt {α : Type} (p : α → Bool) (xs : List α) : -1 ≤ idxI p xs ∧ idxI p xs < (xs.length : Int) + 1 := by
  unfold idxI
  cases h : xs.findIdx? p with
  | none => simp only; omega
  | some i =>
    obtain ⟨hi, _⟩ := List.findIdx?_eq_some_iff_getElem.1 h
    simp only; omega
theorem ret_int {k : IntKind} {a b : Int} (h : a = b) : Ending.returned (.int k a) = .returned (.int k b) := by rw [h]
theorem ret_bool {a b : Bool} (h : a = b) : Ending.returned (.bool a) = .returned (.bool b) := by rw [h]
end Go.Proofs.YtjkmdpejcgepkaaGreatDoor
