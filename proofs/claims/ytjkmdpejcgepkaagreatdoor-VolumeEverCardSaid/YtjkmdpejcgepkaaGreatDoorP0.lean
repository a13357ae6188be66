/- Plain laws of editions: what is found, kept, removed. -/
import Derived.Test.YtjkmdpejcgepkaaGreatDoorCE
namespace Go.Proofs.YtjkmdpejcgepkaaGreatDoor
open Go.RowKit
/-- the entry with an anchor -/
def look (rows : List (List Entry)) (a : Int) : Option Entry := rows.flatten.find? (fun e => e.anchor == a)
theorem locate_split {a : Int} {rows : List (List Entry)} {i j : Nat} (h : locate a rows = some (i, j)) :
    ∃ A e B, rows.flatten = A ++ e :: B ∧ (∀ y ∈ A, y.anchor ≠ a) ∧ e.anchor = a ∧ e = (rows.getD i []).getD j default ∧
      (∀ e', (rows.set i ((rows.getD i []).set j e')).flatten = A ++ e' :: B) ∧ (∀ n, (rows.set i (insAt (rows.getD i []) (j + 1) n)).flatten = A ++ e :: n :: B) := by
  induction rows generalizing i with
  | nil => simp [locate] at h
  | cons r rs ih =>
    rw [locate] at h
    split at h
    · rename_i k hk
      simp only [Option.some.injEq, Prod.mk.injEq] at h
      obtain ⟨rfl, rfl⟩ := h
      obtain ⟨hlt, hp, hn⟩ := List.findIdx?_eq_some_iff_getElem.1 hk
      refine ⟨r.take k, r[k], r.drop (k + 1) ++ rs.flatten, ?_, ?_, by simpa using hp, by simp [List.getD_eq_getElem?_getD, hlt], ?_, ?_⟩
      · rw [List.flatten_cons, ← List.cons_append, ← List.append_assoc, ← List.drop_eq_getElem_cons hlt, List.take_append_drop]
      · intro y hy
        obtain ⟨m, hm, rfl⟩ := List.mem_iff_getElem.1 hy
        have hm2 : m < k := by rw [List.length_take] at hm; omega
        rw [List.getElem_take]
        simpa using hn m hm2
      · intro e'
        simp only [List.getD_eq_getElem?_getD, List.getElem?_cons_zero, Option.getD_some, List.set_cons_zero, List.flatten_cons]
        rw [List.set_eq_take_append_cons_drop, if_pos hlt]
        simp
      · intro n
        simp only [List.getD_eq_getElem?_getD, List.getElem?_cons_zero, Option.getD_some, List.set_cons_zero, List.flatten_cons, insAt]
        rw [List.take_succ_eq_append_getElem hlt]
        simp only [List.append_assoc, List.cons_append, List.nil_append]
    · rename_i hk
      obtain ⟨p, hp, he⟩ := Option.map_eq_some_iff.1 h
      obtain ⟨p1, p2⟩ := p
      simp only [Prod.mk.injEq] at he
      obtain ⟨rfl, rfl⟩ := he
      obtain ⟨A, e, B, h1, h2, h3, h4, h5, h6⟩ := ih hp
      refine ⟨r ++ A, e, B, by simp [h1], ?_, h3, by simpa using h4, ?_, ?_⟩
      · intro y hy
        rcases List.mem_append.1 hy with hy | hy
        · rw [List.findIdx?_eq_none_iff] at hk
          simpa using hk y hy
        · exact h2 y hy
      · intro e'; simpa using h5 e'
      · intro n; simpa using h6 n
theorem locate_none {a : Int} {rows : List (List Entry)} (h : locate a rows = none) : ∀ y ∈ rows.flatten, y.anchor ≠ a := by
  induction rows with
  | nil => simp
  | cons r rs ih =>
    rw [locate] at h
    split at h
    · simp at h
    · rename_i hk
      simp only [Option.map_eq_none_iff] at h
      intro y hy
      rw [List.flatten_cons] at hy
      rcases List.mem_append.1 hy with hy | hy
      · rw [List.findIdx?_eq_none_iff] at hk
        simpa using hk y hy
      · exact ih h y hy
theorem find_split {a : Int} {A B : List Entry} {e : Entry} (h2 : ∀ y ∈ A, y.anchor ≠ a) (h3 : e.anchor = a) : (A ++ e :: B).find? (fun e => e.anchor == a) = some e := by
  rw [List.find?_append, List.find?_eq_none.2 (fun y hy => by simpa using h2 y hy)]
  simp [h3]
theorem look_locate (rows : List (List Entry)) (a : Int) : look rows a = (locate a rows).map fun p => (rows.getD p.1 []).getD p.2 default := by
  unfold look
  cases h : locate a rows with
  | none => rw [List.find?_eq_none.2 (fun y hy => by simpa using locate_none h y hy)]; rfl
  | some p =>
    obtain ⟨i, j⟩ := p
    obtain ⟨A, e, B, h1, h2, h3, h4, -⟩ := locate_split h
    rw [h1, find_split h2 h3, h4]; rfl
def ents (rows : List (List Entry)) : List Int := rows.flatten.map (·.anchor)
/-- what a step does to the list of all entries -/
inductive StepTo (x : Err) (F G : List Entry) : Prop
  | miss (h : ∀ y ∈ F, y.anchor ≠ x.anchor) (e : G = F)
  | hit (A : List Entry) (e : Entry) (B : List Entry) (h : F = A ++ e :: B) (hA : ∀ y ∈ A, y.anchor ≠ x.anchor) (he : e.anchor = x.anchor)
      (g : G = A ++ (if x.kind = 0 then (if e.gone then e else { e with text := x.text }) else if x.kind = 1 then { e with gone := true } else e) :: ((if x.kind = 0 ∨ x.kind = 1 then [] else [⟨x.new, x.text, false⟩]) ++ B))
theorem stepTo (rows : List (List Entry)) (x : Err) : StepTo x rows.flatten (stepE rows x).flatten := by
  unfold stepE
  split
  · rename_i h; exact .miss (locate_none h) rfl
  · rename_i i j h
    obtain ⟨A, e, B, h1, h2, h3, h4, h5, h6⟩ := locate_split h
    refine .hit A e B h1 h2 h3 ?_
    rw [← h4]
    by_cases k0 : x.kind = 0
    · simp only [k0, if_true, true_or, List.nil_append]
      by_cases hg : e.gone = true
      · simp only [hg, if_true]; exact h1
      · simp only [hg, if_false, Bool.false_eq_true]; exact h5 _
    · by_cases k1 : x.kind = 1
      · simp only [k1, if_true, or_true, List.nil_append, show ¬ (1 : Int) = 0 by decide, if_false]; exact h5 _
      · simp only [k0, k1, if_false, or_self]; exact h6 _
/-- anchors that later additions bring -/
def news (l : List Err) : List Int := (l.filter fun x => !(x.kind == 0 || x.kind == 1)).map (·.new)
/-- anchors are all different, and what comes is fresh -/
def Fr (F : List Entry) (l : List Err) : Prop := (F.map (·.anchor)).Nodup ∧ (news l).Nodup ∧ ∀ a ∈ news l, a ∉ F.map (·.anchor)
theorem news_cons (x : Err) (l : List Err) : news (x :: l) = (if x.kind = 0 ∨ x.kind = 1 then [] else [x.new]) ++ news l := by
  unfold news
  by_cases h : x.kind = 0 ∨ x.kind = 1
  · rw [if_pos h, List.filter_cons_of_neg (by simp; omega)]; rfl
  · rw [if_neg h, List.filter_cons_of_pos (by simp; omega)]; rfl
theorem StepTo.map {x : Err} {F G : List Entry} (h : StepTo x F G) : (G.map (·.anchor)) = F.map (·.anchor) ∨ ∃ A B, F.map (·.anchor) = A ++ B ∧ G.map (·.anchor) = A ++ x.new :: B ∧ ¬(x.kind = 0 ∨ x.kind = 1) := by
  rcases h with ⟨h, rfl⟩ | ⟨A, e, B, rfl, hA, he, rfl⟩
  · exact .inl rfl
  · by_cases k0 : x.kind = 0
    · left; simp only [k0, if_true, true_or, List.nil_append]; by_cases hg : e.gone = true <;> simp [hg]
    · by_cases k1 : x.kind = 1
      · left; rw [if_neg k0, if_pos k1, if_pos (.inr k1)]; simp
      · right
        rw [if_neg k0, if_neg k1, if_neg (by omega)]
        exact ⟨A.map (·.anchor) ++ [e.anchor], B.map (·.anchor), by simp, by simp, by omega⟩
theorem StepTo.fr {x : Err} {F G : List Entry} {l : List Err} (h : StepTo x F G) (hf : Fr F (x :: l)) : Fr G l := by
  obtain ⟨h1, h2, h3⟩ := hf
  rw [news_cons] at h2 h3
  have h2' := (List.nodup_append.1 h2)
  rcases h.map with he | ⟨A, B, hF, hG, hk⟩
  · exact ⟨by rw [he]; exact h1, h2'.2.1, fun a ha => by rw [he]; exact h3 a (List.mem_append_right _ ha)⟩
  · rw [if_neg hk] at h2 h2' h3
    have hn : x.new ∉ A ++ B := by rw [← hF]; exact h3 _ (by simp)
    rw [Fr, hG]
    rw [hF] at h1 h3
    refine ⟨?_, h2'.2.1, ?_⟩
    · rw [(List.perm_middle (l₁ := A) (l₂ := B) (a := x.new)).nodup_iff, List.nodup_cons]
      exact ⟨hn, h1⟩
    · intro a ha hm
      rw [(List.perm_middle (l₁ := A) (l₂ := B) (a := x.new)).mem_iff, List.mem_cons] at hm
      rcases hm with rfl | hm
      · exact h2'.2.2 _ (List.mem_singleton_self _) _ ha rfl
      · exact h3 a (List.mem_append_right _ ha) hm
theorem fold_fr (l m : List Err) (rows : List (List Entry)) (h : Fr rows.flatten (l ++ m)) : Fr (l.foldl stepE rows).flatten m := by
  induction l generalizing rows with
  | nil => exact h
  | cons x l ih => exact ih (stepE rows x) ((stepTo rows x).fr h)
def findF (F : List Entry) (a : Int) : Option Entry := F.find? (fun e => e.anchor == a)
/-- what stands stays: an entry found is found later; what is gone stays as it is -/
theorem StepTo.keep {x : Err} {F G : List Entry} {l : List Err} (h : StepTo x F G) (hf : Fr F (x :: l)) (a : Int) (e : Entry) (ha : findF F a = some e) : ∃ e', findF G a = some e' ∧ (e.gone = true → e' = e) := by
  rcases h with ⟨h, rfl⟩ | ⟨A, y, B, rfl, hA, he, rfl⟩
  · exact ⟨e, ha, fun _ => rfl⟩
  · unfold findF at ha ⊢
    rw [List.find?_append] at ha ⊢
    cases hq : A.find? (fun e => e.anchor == a) with
    | some z =>
      rw [hq] at ha
      simp only [Option.some_or, Option.some.injEq] at ha ⊢
      exact ⟨z, rfl, fun _ => ha⟩
    | none =>
      rw [hq] at ha
      simp only [Option.none_or] at ha ⊢
      have han : ∀ (t : ByteArray) (g : Bool), ({ y with text := t } : Entry).anchor = y.anchor ∧ ({ y with gone := g } : Entry).anchor = y.anchor := fun _ _ => ⟨rfl, rfl⟩
      by_cases hya : y.anchor = a
      · rw [List.find?_cons_of_pos (by simpa using hya)] at ha
        injection ha with ha
        subst ha
        refine ⟨_, List.find?_cons_of_pos ?_, ?_⟩
        · by_cases k0 : x.kind = 0
          · rw [if_pos k0]; by_cases hg : y.gone <;> simp [hg, hya]
          · rw [if_neg k0]; by_cases k1 : x.kind = 1 <;> simp [k1, hya]
        · intro hg
          by_cases k0 : x.kind = 0
          · rw [if_pos k0, if_pos hg]
          · rw [if_neg k0]
            by_cases k1 : x.kind = 1
            · rw [if_pos k1]; cases y; simp_all
            · rw [if_neg k1]
      · rw [List.find?_cons_of_neg (by simpa using hya)] at ha
        refine ⟨e, ?_, fun _ => rfl⟩
        rw [List.find?_cons_of_neg]
        · by_cases k : x.kind = 0 ∨ x.kind = 1
          · rw [if_pos k]; exact ha
          · rw [if_neg k, List.singleton_append, List.find?_cons_of_neg]
            · exact ha
            · have hm : a ∈ (A ++ y :: B).map (·.anchor) := by
                obtain ⟨_, hmem, hp⟩ := (⟨e, List.mem_of_find?_eq_some ha, by simpa using List.find?_some ha⟩ : ∃ e, e ∈ B ∧ e.anchor = a)
                simp only [List.map_append, List.map_cons, List.mem_append, List.mem_cons, List.mem_map]
                exact .inr (.inr ⟨_, hmem, hp⟩)
              have := hf.2.2 x.new (by rw [news_cons, if_neg k]; simp)
              simp only [beq_iff_eq]
              rintro rfl
              exact this hm
        · by_cases k0 : x.kind = 0
          · rw [if_pos k0]; by_cases hg : y.gone <;> simp [hg, hya]
          · rw [if_neg k0]; by_cases k1 : x.kind = 1 <;> simp [k1, hya]
theorem fold_keep (l m : List Err) (rows : List (List Entry)) (hf : Fr rows.flatten (l ++ m)) (a : Int) (e : Entry) (ha : look rows a = some e) :
    ∃ e', look (l.foldl stepE rows) a = some e' ∧ (e.gone = true → e' = e) := by
  induction l generalizing rows e with
  | nil => exact ⟨e, ha, fun _ => rfl⟩
  | cons x l ih =>
    obtain ⟨e1, h1, h2⟩ := (stepTo rows x).keep (l := l ++ m) hf a e ha
    obtain ⟨e2, h3, h4⟩ := ih (stepE rows x) ((stepTo rows x).fr hf) e1 h1
    exact ⟨e2, h3, fun hg => by rw [h4 (by rw [h2 hg]; exact hg), h2 hg]⟩
theorem find_of_mem {F : List Entry} (h : (F.map (·.anchor)).Nodup) {e : Entry} (he : e ∈ F) : findF F e.anchor = some e := by
  unfold findF
  induction F with
  | nil => simp at he
  | cons y F ih =>
    rw [List.map_cons, List.nodup_cons] at h
    rcases List.mem_cons.1 he with rfl | he
    · exact List.find?_cons_of_pos (by simp)
    · rw [List.find?_cons_of_neg]
      · exact ih h.2 he
      · simp only [beq_iff_eq]
        intro hq
        exact h.1 (by rw [hq]; exact List.mem_map_of_mem he)
theorem mem_of_find {F : List Entry} {a : Int} {e : Entry} (h : findF F a = some e) : e ∈ F ∧ e.anchor = a := ⟨List.mem_of_find?_eq_some h, by simpa using List.find?_some h⟩
end Go.Proofs.YtjkmdpejcgepkaaGreatDoor
