/- print: the places of a volume. -/
import Derived.Test.YtjkmdpejcgepkaaGreatDoorCD
namespace Go.Proofs.YtjkmdpejcgepkaaGreatDoor
open Go.RowKit
structure Pr where
  anchor : Int
  column : Int
  line : Int
  lines : Int
  day : Int
  number : Int
  deriving Inhabited
def EPr : Enc Pr := ⟨fun x => [.int .i64 x.anchor, .int .i64 x.column, .int .i64 x.line, .int .i64 x.lines, .int .i64 x.day, .int .i64 x.number], 6, fun _ => rfl, fun x u hu => by simp at hu; rcases hu with rfl | rfl | rfl | rfl | rfl | rfl <;> rfl, by decide⟩
/-- lines of a text -/
def linesOf (wd : Int) (t : ByteArray) : Int := ((t.size : Int) + wd - 1) / wd
/-- lines and number behind some entries of a row -/
def rowEnd (wd : Int) : Int × Int → List Entry → Int × Int := fun s r => r.foldl (fun s e => if e.gone then s else (s.1 + linesOf wd e.text, s.2 + 1)) s
def prOf (ht wd col day : Int) (s : Int × Int) (e : Entry) : Pr := ⟨e.anchor, col + s.1 / ht, s.1 % ht + 1, linesOf wd e.text, day, s.2 + 1⟩
def rowPr (ht wd col day : Int) : Int × Int → List Entry → List Pr
  | _, [] => []
  | s, e :: r => if e.gone then rowPr ht wd col day s r else prOf ht wd col day s e :: rowPr ht wd col day (s.1 + linesOf wd e.text, s.2 + 1) r
theorem rowPr_snoc (ht wd col day : Int) (s : Int × Int) (r : List Entry) (e : Entry) :
    rowPr ht wd col day s (r ++ [e]) = rowPr ht wd col day s r ++ (if e.gone then [] else [prOf ht wd col day (rowEnd wd s r) e]) := by
  induction r generalizing s with
  | nil => cases h : e.gone <;> simp [rowPr, rowEnd, h]
  | cons y r ih =>
    cases h : y.gone
    · simp only [List.cons_append, rowPr, h, Bool.false_eq_true, if_false, ih]
      simp [rowEnd, h]
    · simp only [List.cons_append, rowPr, h, if_true, ih]
      simp [rowEnd, h]
theorem rowEnd_snoc (wd : Int) (s : Int × Int) (r : List Entry) (e : Entry) : rowEnd wd s (r ++ [e]) = if e.gone then rowEnd wd s r else ((rowEnd wd s r).1 + linesOf wd e.text, (rowEnd wd s r).2 + 1) := by
  simp [rowEnd, List.foldl_append]
/-- columns behind some rows -/
def colEnd (ht wd : Int) (rows : List (List Entry)) : Int := rows.foldl (fun c r => c + ((rowEnd wd (0, 0) r).1 + ht - 1) / ht) 1
theorem colEnd_snoc (ht wd : Int) (rows : List (List Entry)) (r : List Entry) : colEnd ht wd (rows ++ [r]) = colEnd ht wd rows + ((rowEnd wd (0, 0) r).1 + ht - 1) / ht := by simp [colEnd]
def printL (ht wd : Int) (days : List Int) (rows : List (List Entry)) : List Pr :=
  (List.range rows.length).flatMap fun i => rowPr ht wd (colEnd ht wd (rows.take i)) (days.getD i 0) (0, 0) (rows.getD i [])
def printV (x : Vol) (errata : List Err) : List Pr := printL x.height x.width (x.parts.map (·.day)) (afterR x errata x.bound)
theorem Tryz.infoPrinted : (Tryz.prog.info? 103).map (fun i => (i.zero, i.size, i.bytes)) = some (some (.agg #[.int .i64 0, .int .i64 0, .int .i64 0, .int .i64 0, .int .i64 0, .int .i64 0]), 6, 48) := by kernel_rfl
theorem stepE_length (rows : List (List Entry)) (x : Err) : (stepE rows x).length = rows.length := by
  unfold stepE
  split
  · rfl
  · split
    · split <;> simp
    · split <;> simp
theorem fold_length (rows : List (List Entry)) (l : List Err) : (l.foldl stepE rows).length = rows.length := by
  induction l generalizing rows with
  | nil => rfl
  | cons x l ih => rw [List.foldl_cons, ih, stepE_length]
theorem afterR_length (x : Vol) (errata : List Err) (to : Int) : (afterR x errata to).length = x.parts.length := by
  unfold afterR; rw [fold_length]; simp [rows0]
def TextsLe (m : Nat) (rows : List (List Entry)) : Prop := ∀ r ∈ rows, ∀ e ∈ r, e.text.size ≤ m
theorem linesOf_le {wd : Int} {t : ByteArray} {m : Nat} (h1 : 1 ≤ wd) (h : t.size ≤ m) (hw : wd ≤ 1000) : 0 ≤ linesOf wd t ∧ linesOf wd t ≤ (m : Int) + 1000 := by
  unfold linesOf
  have h0 : (0 : Int) ≤ (t.size : Int) + wd - 1 := by omega
  refine ⟨Int.ediv_nonneg h0 (by omega), ?_⟩
  have := Int.ediv_le_self wd h0
  omega
theorem rowEnd_le {wd : Int} {m : Nat} (h1 : 1 ≤ wd) (hw : wd ≤ 1000) (r : List Entry) (h : ∀ e ∈ r, e.text.size ≤ m) (s : Int × Int) (h0 : 0 ≤ s.1 ∧ 0 ≤ s.2) :
    0 ≤ (rowEnd wd s r).1 ∧ (rowEnd wd s r).1 ≤ s.1 + (r.length : Int) * ((m : Int) + 1000) ∧ 0 ≤ (rowEnd wd s r).2 ∧ (rowEnd wd s r).2 ≤ s.2 + r.length := by
  induction r generalizing s with
  | nil => simp [rowEnd]; exact h0
  | cons e r ih =>
    have hl := linesOf_le h1 (h e (List.mem_cons_self ..)) hw
    have hr := fun q hq => h q (List.mem_cons_of_mem _ hq)
    have hm : (0 : Int) ≤ (m : Int) + 1000 := by omega
    have e1 : ((e :: r).length : Int) * ((m : Int) + 1000) = (r.length : Int) * ((m : Int) + 1000) + ((m : Int) + 1000) := by
      rw [List.length_cons]; push_cast; rw [Int.add_mul, Int.one_mul]
    cases hg : e.gone
    · have := ih hr (s.1 + linesOf wd e.text, s.2 + 1) ⟨by simp only; omega, by simp only; omega⟩
      have e2 : rowEnd wd s (e :: r) = rowEnd wd (s.1 + linesOf wd e.text, s.2 + 1) r := by simp [rowEnd, hg]
      rw [e2, e1, List.length_cons]
      simp only at this
      push_cast
      omega
    · have := ih hr s h0
      have e2 : rowEnd wd s (e :: r) = rowEnd wd s r := by simp [rowEnd, hg]
      rw [e2, e1, List.length_cons]
      push_cast
      omega
theorem colEnd_le {ht wd : Int} {m n : Nat} (h1 : 1 ≤ wd) (hw : wd ≤ 1000) (h2 : 1 ≤ ht) (h3 : ht ≤ 1000) (rows : List (List Entry)) (h : TextsLe m rows) (hn : ∀ r ∈ rows, r.length ≤ n) :
    1 ≤ colEnd ht wd rows ∧ colEnd ht wd rows ≤ 1 + (rows.length : Int) * ((n : Int) * ((m : Int) + 1000) + 1000) := by
  suffices H : ∀ (c : Int), 1 ≤ c → 1 ≤ rows.foldl (fun c r => c + ((rowEnd wd (0, 0) r).1 + ht - 1) / ht) c ∧ rows.foldl (fun c r => c + ((rowEnd wd (0, 0) r).1 + ht - 1) / ht) c ≤ c + (rows.length : Int) * ((n : Int) * ((m : Int) + 1000) + 1000) from H 1 (by omega)
  induction rows with
  | nil => intro c hc; simp; exact hc
  | cons r rs ih =>
    intro c hc
    have hb := rowEnd_le h1 hw r (h r (List.mem_cons_self ..)) (0, 0) ⟨by simp, by simp⟩
    have hrn := hn r (List.mem_cons_self ..)
    have hmul : (r.length : Int) * ((m : Int) + 1000) ≤ (n : Int) * ((m : Int) + 1000) := Int.mul_le_mul_of_nonneg_right (by omega) (by omega)
    simp only at hb
    have hq0 : (0 : Int) ≤ (rowEnd wd (0, 0) r).1 + ht - 1 := by omega
    have hq1 : 0 ≤ ((rowEnd wd (0, 0) r).1 + ht - 1) / ht := Int.ediv_nonneg hq0 (by omega)
    have hq2 := Int.ediv_le_self ht hq0
    rw [List.foldl_cons]
    have := ih (fun q hq => h q (List.mem_cons_of_mem _ hq)) (fun q hq => hn q (List.mem_cons_of_mem _ hq)) (c + ((rowEnd wd (0, 0) r).1 + ht - 1) / ht) (by omega)
    have e1 : ((r :: rs).length : Int) * ((n : Int) * ((m : Int) + 1000) + 1000) = (rs.length : Int) * ((n : Int) * ((m : Int) + 1000) + 1000) + ((n : Int) * ((m : Int) + 1000) + 1000) := by
      rw [List.length_cons]; push_cast; rw [Int.add_mul, Int.one_mul]
    rw [e1]
    omega
end Go.Proofs.YtjkmdpejcgepkaaGreatDoor
