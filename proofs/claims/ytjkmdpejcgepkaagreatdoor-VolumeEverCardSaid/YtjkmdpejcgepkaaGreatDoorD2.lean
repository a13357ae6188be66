/- Cite: the citation of a paragraph. -/
import Derived.Test.YtjkmdpejcgepkaaGreatDoorD1
namespace Go.Proofs.YtjkmdpejcgepkaaGreatDoor
open Go.RowKit
theorem rd_block {α : Type} (E : Enc α) {W : World} {b : Nat} {t : TypeId} {fr : Nat × Nat} (xs : List α) (hl : xs.length ≤ 1000000) (h : W.heap[b]? = some (.cells (flat E xs).toArray t fr)) : Rd E.f E.k W (.slice (some ⟨b, 0, none⟩) xs.length xs.length) xs := by
  refine ⟨_, xs.length, rfl, Nat.le_refl _, by omega, fun _ => ⟨_, _, rfl, (Array.getElem?_eq_some_iff.1 h).1, fun j hj i u hu => ?_⟩⟩
  have hi : i < E.k := by rw [← E.len xs[j]]; exact (List.getElem?_eq_some_iff.1 hu).1
  have := flat_get E xs j i hj hi
  simp only [World.cell?, h, Nat.zero_add]
  rw [List.getElem?_toArray, this]; exact hu
theorem rowPr_mem {ht wd col day : Int} (h1 : 1 ≤ ht) (h3 : 1 ≤ wd) (h4 : wd ≤ 1000) {m : Nat} (r : List Entry) (hr : ∀ e ∈ r, e.text.size ≤ m) (s : Int × Int) (h0 : 0 ≤ s.1 ∧ 0 ≤ s.2) (p : Pr) (hp : p ∈ rowPr ht wd col day s r) :
    col ≤ p.column ∧ p.column ≤ col + (s.1 + (r.length : Int) * ((m : Int) + 1000)) ∧ 1 ≤ p.line ∧ p.line ≤ ht ∧ p.day = day ∧ s.2 < p.number ∧ p.number ≤ s.2 + r.length ∧ ∃ e ∈ r, e.gone = false ∧ p.anchor = e.anchor ∧ p.lines = linesOf wd e.text := by
  induction r generalizing s with
  | nil => simp [rowPr] at hp
  | cons e r ih =>
    have hl := linesOf_le h3 (hr e (List.mem_cons_self ..)) h4
    have hr' := fun q hq => hr q (List.mem_cons_of_mem _ hq)
    have e1 : ((e :: r).length : Int) * ((m : Int) + 1000) = (r.length : Int) * ((m : Int) + 1000) + ((m : Int) + 1000) := by
      rw [List.length_cons]; push_cast; rw [Int.add_mul, Int.one_mul]
    have hm0 : (0 : Int) ≤ (r.length : Int) * ((m : Int) + 1000) := Int.mul_nonneg (by omega) (by omega)
    rw [rowPr] at hp
    cases hg : e.gone
    · rw [hg] at hp
      simp only [Bool.false_eq_true, if_false] at hp
      rcases List.mem_cons.1 hp with rfl | hp
      · have b1 : 0 ≤ s.1 / ht := Int.ediv_nonneg h0.1 (by omega)
        have b2 : s.1 / ht ≤ s.1 := Int.ediv_le_self ht h0.1
        have b3 : 0 ≤ s.1 % ht := Int.emod_nonneg s.1 (by omega)
        have b4 : s.1 % ht < ht := Int.emod_lt_of_pos s.1 (by omega)
        refine ⟨?_, ?_, ?_, ?_, rfl, ?_, ?_, e, List.mem_cons_self .., hg, rfl, rfl⟩
        · show col ≤ col + s.1 / ht; omega
        · show col + s.1 / ht ≤ _; rw [e1]; omega
        · show 1 ≤ s.1 % ht + 1; omega
        · show s.1 % ht + 1 ≤ ht; omega
        · show s.2 < s.2 + 1; omega
        · show s.2 + 1 ≤ _; rw [List.length_cons]; push_cast; omega
      · obtain ⟨q1, q2, q3, q4, q5, q6, q7, y, q8, q9⟩ := ih hr' _ ⟨by simp only; omega, by simp only; omega⟩ hp
        simp only at q1 q2 q6 q7
        refine ⟨q1, by rw [e1]; omega, q3, q4, q5, by omega, by rw [List.length_cons]; push_cast; omega, y, List.mem_cons_of_mem _ q8, q9⟩
    · rw [hg] at hp
      simp only [if_true] at hp
      obtain ⟨q1, q2, q3, q4, q5, q6, q7, y, q8, q9⟩ := ih hr' _ h0 hp
      refine ⟨q1, by rw [e1]; omega, q3, q4, q5, by omega, by rw [List.length_cons]; push_cast; omega, y, List.mem_cons_of_mem _ q8, q9⟩
theorem printL_mem {ht wd : Int} {days : List Int} {rows : List (List Entry)} {p : Pr} (hp : p ∈ printL ht wd days rows) : ∃ i, ∃ h : i < rows.length, p ∈ rowPr ht wd (colEnd ht wd (rows.take i)) (days.getD i 0) (0, 0) rows[i] := by
  unfold printL at hp
  obtain ⟨i, hi, hp⟩ := List.mem_flatMap.1 hp
  have hi : i < rows.length := by simpa using hi
  exact ⟨i, hi, by simpa [List.getD_eq_getElem?_getD, hi] using hp⟩
theorem valid_days {x : Vol} (h : x.valid = true) (i : Nat) (hi : i < x.parts.length) : 0 ≤ x.parts[i].day ∧ x.parts[i].day ≤ 99999 ∧ x.parts[i].day ≤ x.bound ∧ ∀ (j : Nat) (_ : j + 1 = i), x.parts[j].day < x.parts[i].day := by
  unfold Vol.valid daysB at h
  simp only [Bool.and_eq_true] at h
  have := List.all_eq_true.1 h.1 i (by simpa using hi)
  unfold dayAt dayB withinB at this
  rw [List.getD_eq_getElem?_getD, List.getElem?_eq_getElem hi] at this
  simp only [Option.getD_some, Bool.and_eq_true, decide_eq_true_eq, Bool.not_eq_true', decide_eq_false_iff_not, Bool.or_eq_true, beq_iff_eq] at this
  refine ⟨by omega, by omega, by omega, fun j hj => ?_⟩
  subst hj
  have := this.2
  rcases this with this | this
  · omega
  · rw [Nat.add_sub_cancel, List.getD_eq_getElem?_getD, List.getElem?_eq_getElem (by omega)] at this
    exact this
theorem printV_mem {x : Vol} {errata : List Err} (h : checkE x errata = 0) (hs : x.small) (hl : errata.length ≤ 1000) {p : Pr} (hp : p ∈ printV x errata) :
    1 ≤ p.column ∧ p.column ≤ 1000000000000 ∧ 1 ≤ p.line ∧ p.line ≤ x.height ∧ 0 ≤ p.day ∧ p.day ≤ 99999 ∧ 1 ≤ p.number ∧ p.number ≤ 2000 := by
  have hz := check_sizes h
  have hsm := afterR_small x errata x.bound hs hl
  have htx : ∀ e ∈ (afterR x errata x.bound).flatten, e.text.size ≤ 200 := fun e he => (textB_size (after_texts h x.bound e he)).2
  have hlen := afterR_length x errata x.bound
  unfold printV at hp
  obtain ⟨i, hi, hp⟩ := printL_mem hp
  have hrl : (afterR x errata x.bound)[i].length ≤ 2000 := hsm.2 _ (List.getElem_mem hi)
  obtain ⟨q1, q2, q3, q4, q5, q6, q7, -⟩ := rowPr_mem (m := 200) (by omega) (by omega) (by omega) _ (fun e he => htx e (List.mem_flatten.2 ⟨_, List.getElem_mem hi, he⟩)) (0, 0) ⟨by simp, by simp⟩ p hp
  have hc := colEnd_le (m := 200) (n := 2000) (wd := x.width) (ht := x.height) (by omega) (by omega) (by omega) (by omega) ((afterR x errata x.bound).take i) (fun r hr => textsLe_of htx r (List.mem_of_mem_take hr)) (fun r hr => hsm.2 r (List.mem_of_mem_take hr))
  have hl1 : ((afterR x errata x.bound).take i).length ≤ 100 := by rw [List.length_take]; have := hsm.1; omega
  have hm1 : (((afterR x errata x.bound).take i).length : Int) * (((2000 : Nat) : Int) * (((200 : Nat) : Int) + 1000) + 1000) ≤ 100 * (((2000 : Nat) : Int) * (((200 : Nat) : Int) + 1000) + 1000) := Int.mul_le_mul_of_nonneg_right (by omega) (by omega)
  have hm2 : ((afterR x errata x.bound)[i].length : Int) * (((200 : Nat) : Int) + 1000) ≤ 2000 * (((200 : Nat) : Int) + 1000) := Int.mul_le_mul_of_nonneg_right (by omega) (by omega)
  have hd := valid_days (checkVol_valid (checkE_ok h).1) i (by omega)
  have hdd : (x.parts.map (·.day)).getD i 0 = x.parts[i].day := by simp [List.getD_eq_getElem?_getD, show i < x.parts.length by omega]
  rw [hdd] at q5
  simp only at q2 q6 q7
  refine ⟨by omega, by omega, q3, q4, by omega, by omega, by omega, by omega⟩
def bVol : ByteArray := ⟨#[118, 111, 108, 46, 32]⟩
def bCol : ByteArray := ⟨#[44, 32, 99, 111, 108, 46, 32]⟩
def bL : ByteArray := ⟨#[44, 32, 108, 46, 32]⟩
def bSep : ByteArray := ⟨#[44, 32]⟩
def bPar : ByteArray := ⟨#[44, 32, 112, 97, 114, 46, 32]⟩
def bAt : ByteArray := ⟨#[64]⟩
def iCol (n : Int) (p : Pr) : List Item := [.str bVol, .num n, .str bCol, .num p.column, .str bL, .num p.line]
def iNum (n : Int) (p : Pr) : List Item := [.str bVol, .num n, .str bSep, .num p.day, .str bPar, .num p.number]
def iAt (a to : Int) : List Item := [.num a, .str bAt, .num to]
def bytesOf (l : List UInt8) : ByteArray := ⟨l.toArray⟩
def citeP (n : Int) (style : Int) (p : Pr) : ByteArray := bytesOf (spell (if style = 0 then iCol n p else iNum n p))
def citeR (n : Int) (pl : List Pr) (a style : Int) : ByteArray × Int :=
  match pl.find? (fun p => p.anchor == a) with
  | none => (⟨#[]⟩, 7)
  | some p => (citeP n style p, 0)
def citeE (x : Vol) (errata : List Err) (a style to : Int) : ByteArray × Int :=
  if checkE x errata ≠ 0 then (⟨#[]⟩, checkE x errata) else if 2 < style then (⟨#[]⟩, 2) else
  if style = 2 then (if dayB to = false then (⟨#[]⟩, 2) else if (findE x errata a to).2.2 ≠ 0 then (⟨#[]⟩, (findE x errata a to).2.2) else (bytesOf (spell (iAt a to)), 0))
  else citeR x.number (printV x errata) a style
def citeV (p : ByteArray × Int) : Value := .tuple #[.string p.1, .int .i64 p.2]
theorem find_at {pl : List Pr} {a : Int} {k : Nat} (hk : k < pl.length) (h : pl[k].anchor = a) (hn : ∀ j (_ : j < pl.length), j < k → pl[j].anchor ≠ a) : pl.find? (fun p => p.anchor == a) = some pl[k] := by
  rw [List.find?_eq_some_iff_getElem]
  exact ⟨by simpa using h, k, hk, rfl, fun j hj => by simpa using hn j (by omega) hj⟩
theorem find_no {pl : List Pr} {a : Int} (hn : ∀ j (_ : j < pl.length), j < pl.length → pl[j].anchor ≠ a) : pl.find? (fun p => p.anchor == a) = none := by
  rw [List.find?_eq_none]
  intro p hp
  obtain ⟨j, hj, rfl⟩ := List.mem_iff_getElem.1 hp
  simpa using hn j hj hj
end Go.Proofs.YtjkmdpejcgepkaaGreatDoor
