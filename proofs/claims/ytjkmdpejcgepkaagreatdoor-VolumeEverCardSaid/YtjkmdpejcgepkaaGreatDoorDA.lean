/- Resolve: what a citation is of. -/
import Derived.Test.YtjkmdpejcgepkaaGreatDoorD7
namespace Go.Proofs.YtjkmdpejcgepkaaGreatDoor
open Go.RowKit
def lineAt (ht b c : Int) (p : Pr) : Int := (b - p.column) * ht + c - p.line
def hit (n ht st a b c : Int) (p : Pr) : Bool := (if st = 0 then withinB c 1 ht && withinB (lineAt ht b c p) 0 (p.lines - 1) else p.day == b && p.number == c) && a == n
def resolveR (n bd ht : Int) (pl : List Pr) (st a b c : Int) : Int × Int × Int := match pl.find? (hit n ht st a b c) with
  | none => (0, 0, 7)
  | some p => (p.anchor, bd, 0)
def resolveE (x : Vol) (errata : List Err) (cite : List UInt8) : Int × Int × Int :=
  if checkE x errata ≠ 0 then (0, 0, checkE x errata) else match parseC cite with
  | none => (0, 0, 4)
  | some q => if q.1 = 2 then (if (findE x errata q.2.1 q.2.2.1).2.2 ≠ 0 then (0, 0, (findE x errata q.2.1 q.2.2.1).2.2) else (q.2.1, q.2.2.1, 0)) else resolveR x.number x.bound x.height (printV x errata) q.1 q.2.1 q.2.2.1 q.2.2.2
def resolveV (p : Int × Int × Int) : Value := .tuple #[.int .i64 p.1, .int .i64 p.2.1, .int .i64 p.2.2]
theorem numOf_in {l : List UInt8} {v : Int} (h : numOf l = some v) : 0 ≤ v ∧ v ≤ 999999 := by
  unfold numOf at h
  split at h
  · split at h
    · cases h; exact ⟨(by assumption : _ ∧ _ ∧ _).2.1, (by assumption : _ ∧ _ ∧ _).2.2⟩
    · cases h
  · cases h
theorem numC_in {e r : List UInt8} {p : Int × List UInt8} (h : numC e r = some p) : 0 ≤ p.1 ∧ p.1 ≤ 999999 := by
  unfold numC at h
  split at h
  · cases h
  · obtain ⟨v, hv, rfl⟩ := Option.map_eq_some_iff.1 h
    exact numOf_in hv
theorem three_in {st : Int} {e1 e2 r : List UInt8} {q : Int × Int × Int × Int} (h : three st e1 e2 r = some q) : q.1 = st ∧ (0 ≤ q.2.1 ∧ q.2.1 ≤ 999999) ∧ (0 ≤ q.2.2.1 ∧ q.2.2.1 ≤ 999999) ∧ 0 ≤ q.2.2.2 ∧ q.2.2.2 ≤ 999999 := by
  unfold three at h
  obtain ⟨p, hp, h⟩ := Option.bind_eq_some_iff.1 h
  obtain ⟨p2, hp2, h⟩ := Option.bind_eq_some_iff.1 h
  obtain ⟨p3, hp3, rfl⟩ := Option.map_eq_some_iff.1 h
  exact ⟨rfl, numC_in hp, numC_in hp2, numC_in hp3⟩
theorem parseC_in {c : List UInt8} {q : Int × Int × Int × Int} (h : parseC c = some q) : (q.1 = 0 ∨ q.1 = 1 ∨ q.1 = 2) ∧ (0 ≤ q.2.1 ∧ q.2.1 ≤ 999999) ∧ (0 ≤ q.2.2.1 ∧ q.2.2.1 ≤ 999999) ∧ (0 ≤ q.2.2.2 ∧ q.2.2.2 ≤ 999999) ∧ (q.1 ≠ 0 → dayB q.2.2.1 = true) := by
  unfold parseC at h
  obtain ⟨p, hp, h⟩ := Option.bind_eq_some_iff.1 h
  have hq : p = q ∧ (p.1 ≠ 0 → dayB p.2.2.1 = true) := by
    split at h
    · cases h
    · rename_i hn
      cases h
      exact ⟨rfl, fun hne => by
        cases hd : dayB q.2.2.1
        · exact absurd ⟨hne, hd⟩ hn
        · rfl⟩
  obtain ⟨rfl, hd⟩ := hq
  unfold parse0 at hp
  split at hp
  · obtain ⟨p1, hp1, hp⟩ := Option.bind_eq_some_iff.1 hp
    obtain ⟨p2, hp2, rfl⟩ := Option.map_eq_some_iff.1 hp
    exact ⟨.inr (.inr rfl), numC_in hp1, numC_in hp2, ⟨Int.le_refl _, by show (0 : Int) ≤ 999999; decide⟩, hd⟩
  · split at hp
    · obtain ⟨h1, h2, h3, h4⟩ := three_in hp; exact ⟨.inl h1, h2, h3, h4, hd⟩
    · obtain ⟨h1, h2, h3, h4⟩ := three_in hp; exact ⟨.inr (.inl h1), h2, h3, h4, hd⟩
theorem mul_in {a b : Int} (h1 : -1000000000000 ≤ a) (h2 : a ≤ 1000000000000) (h3 : 0 ≤ b) (h4 : b ≤ 1000) : -1000000000000000 ≤ a * b ∧ a * b ≤ 1000000000000000 := by
  constructor
  · have e1 : -1000000000000 * b ≤ a * b := Int.mul_le_mul_of_nonneg_right h1 h3
    omega
  · have e1 : a * b ≤ 1000000000000 * b := Int.mul_le_mul_of_nonneg_right h2 h3
    omega
theorem lines_of {x : Vol} {errata : List Err} (h : checkE x errata = 0) {p : Pr} (hp : p ∈ printV x errata) : 1 ≤ p.lines ∧ p.lines ≤ 20 := by
  have hz := check_sizes h
  unfold printV at hp
  obtain ⟨i, hi, hp⟩ := printL_mem hp
  obtain ⟨-, -, -, -, -, -, -, e, he, hg, ha, hl⟩ := rowPr_mem (m := 200) (by omega) (by omega) (by omega) _ (fun e he => (textB_size (after_texts h x.bound e (List.mem_flatten.2 ⟨_, List.getElem_mem hi, he⟩))).2) (0, 0) ⟨by simp, by simp⟩ p hp
  have ht := textB_size (after_texts h x.bound e (List.mem_flatten.2 ⟨_, List.getElem_mem hi, he⟩))
  rw [hl]
  unfold linesOf
  constructor
  · have : 1 * x.width ≤ (e.text.size : Int) + x.width - 1 := by omega
    exact (Int.le_ediv_iff_mul_le (by omega)).2 this
  · have : (e.text.size : Int) + x.width - 1 < 21 * x.width := by omega
    have := (Int.ediv_lt_iff_lt_mul (show 0 < x.width by omega)).2 this
    omega
theorem pfind_at {pl : List Pr} {f : Pr → Bool} {k : Nat} (hk : k < pl.length) (h : f pl[k] = true) (hn : ∀ j (_ : j < pl.length), j < k → f pl[j] = false) : pl.find? f = some pl[k] := by
  rw [List.find?_eq_some_iff_getElem]
  exact ⟨h, k, hk, rfl, fun j hj => by simp [hn j (by omega) hj]⟩
theorem pfind_no {pl : List Pr} {f : Pr → Bool} (hn : ∀ j (_ : j < pl.length), j < pl.length → f pl[j] = false) : pl.find? f = none := by
  rw [List.find?_eq_none]
  intro p hp
  obtain ⟨j, hj, rfl⟩ := List.mem_iff_getElem.1 hp
  simp [hn j hj hj]
end Go.Proofs.YtjkmdpejcgepkaaGreatDoor
