/- Plain laws: citations byte for byte. -/
import Derived.Test.YtjkmdpejcgepkaaGreatDoorG3
namespace Go.Proofs.YtjkmdpejcgepkaaGreatDoor
open Go.RowKit
theorem rowPr_anchors (ht wd col day : Int) (r : List Entry) (s : Int × Int) : (rowPr ht wd col day s r).map (·.anchor) = (r.filter fun e => !e.gone).map (·.anchor) := by
  induction r generalizing s with
  | nil => rfl
  | cons e r ih =>
    rw [rowPr]
    cases hg : e.gone
    · simp only [Bool.false_eq_true, if_false, List.map_cons, ih]
      rw [List.filter_cons_of_pos (by simp [hg])]; rfl
    · simp only [if_true, ih]
      rw [List.filter_cons_of_neg (by simp [hg])]
theorem range_getD {α : Type} (rows : List (List α)) : (List.range rows.length).flatMap (fun i => rows.getD i []) = rows.flatten := by
  induction rows with
  | nil => rfl
  | cons r rs ih =>
    rw [List.length_cons, List.range_succ_eq_map, List.flatMap_cons, List.flatMap_map, List.flatten_cons]
    congr 1
theorem printL_anchors (ht wd : Int) (days : List Int) (rows : List (List Entry)) : (printL ht wd days rows).map (·.anchor) = (rows.flatten.filter fun e => !e.gone).map (·.anchor) := by
  unfold printL
  rw [List.map_flatMap]
  simp only [rowPr_anchors]
  conv => rhs; rw [← range_getD rows, List.filter_flatMap, List.map_flatMap]
theorem printV_nodup {x : Vol} {er : List Err} (h0 : checkVol x = 0) (h : EOk x er) : ((printV x er).map (·.anchor)).Nodup := by
  unfold printV
  rw [printL_anchors]
  exact ((List.filter_sublist).map _).nodup (after_nodup h0 h x.bound)
theorem find_anchorV {x : Vol} {er : List Err} (h0 : checkVol x = 0) (h : EOk x er) {p : Pr} (hp : p ∈ printV x er) : (printV x er).find? (fun q => q.anchor == p.anchor) = some p := by
  have hn := printV_nodup h0 h
  generalize printV x er = l at hp hn
  induction l with
  | nil => simp at hp
  | cons y l ih =>
    rw [List.map_cons, List.nodup_cons] at hn
    rcases List.mem_cons.1 hp with rfl | hp
    · exact List.find?_cons_of_pos (by simp)
    · rw [List.find?_cons_of_neg]
      · exact ih hp hn.2
      · simp only [beq_iff_eq]
        intro e
        exact hn.1 (by rw [e]; exact List.mem_map_of_mem hp)
theorem anchor_inj {x : Vol} {er : List Err} (h0 : checkVol x = 0) (h : EOk x er) {p q : Pr} (hp : p ∈ printV x er) (hq : q ∈ printV x er) (e : p.anchor = q.anchor) : p = q := by
  have h1 := find_anchorV h0 h hp
  rw [e, find_anchorV h0 h hq] at h1
  exact (Option.some.inj h1).symm
theorem cite_place {x : Vol} {er : List Err} (h0 : checkVol x = 0) (h : EOk x er) {p : Pr} (hp : p ∈ printV x er) (st dd : Int) (hs0 : 0 ≤ st) (hs : st ≤ 1) : citeE x er p.anchor st dd = (citeP x.number st p, 0) := by
  unfold citeE
  rw [if_neg (by rw [check_of h0 h]; decide), if_neg (by omega), if_neg (by omega)]
  unfold citeR
  rw [find_anchorV h0 h hp]
theorem ba_of_toList {a b : ByteArray} (h : a.data.toList = b.data.toList) : a = b := ByteArray.ext (Array.toList_inj.1 h)
theorem place_eq {x : Vol} {er : List Err} (h : checkE x er = 0) {p q : Pr} (hp : p ∈ printV x er) (hq : q ∈ printV x er) (st : Int) (e : qOf x.number st p = qOf x.number st q) : p = q := by
  obtain ⟨i, hi, rfl⟩ := List.mem_iff_getElem.1 hp
  obtain ⟨j, hj, rfl⟩ := List.mem_iff_getElem.1 hq
  have hpr := printV_pairs h
  have key : ∀ a b (ha : a < (printV x er).length) (hb : b < (printV x er).length), a < b → qOf x.number st (printV x er)[a] = qOf x.number st (printV x er)[b] → False := by
    intro a b ha hb hab e
    obtain ⟨l1, l2⟩ := pairs_at hpr hb hab
    have hln := lines_of h (List.getElem_mem ha)
    unfold qOf at e
    by_cases h0 : st = 0
    · rw [if_pos h0, if_pos h0] at e
      simp only [Prod.mk.injEq, true_and] at e
      unfold startOf at l1
      rw [e.1, e.2] at l1
      omega
    · rw [if_neg h0, if_neg h0] at e
      simp only [Prod.mk.injEq, true_and] at e
      omega
  rcases Nat.lt_trichotomy i j with hlt | heq | hlt
  · exact (key i j hi hj hlt e).elim
  · subst heq; rfl
  · exact (key j i hj hi hlt e.symm).elim
theorem cites_same {x : Vol} {er : List Err} (h0 : checkVol x = 0) (h : EOk x er) (hs : x.small) {p q : Pr} (hp : p ∈ printV x er) (hq : q ∈ printV x er) (st : Int) : (citeP x.number st p = citeP x.number st q) ↔ p.anchor = q.anchor := by
  have hck := check_of h0 h
  have hl : er.length ≤ 1000 := by have := h.few; omega
  constructor
  · intro e
    have e2 := congrArg (fun b : ByteArray => b.data.toList) e
    simp only [cite_text] at e2
    rw [place_eq hck hp hq st (spellQ_inj (qOf_ok hck hs hl st hp) (qOf_ok hck hs hl st hq) e2)]
  · intro e
    rw [anchor_inj h0 h hp hq e]
/-- has a place of the print this anchor, column and line? -/
def firstP (l : List Pr) (n c ln : Int) : Bool := l.any fun p => p.anchor == n && (p.column == c && p.line == ln)
/-- what is resolved is cited again -/
theorem bytes_law {x : Vol} {er : List Err} (h0 : checkVol x = 0) (h : EOk x er) (hs : x.small) (cite : ByteArray) :
    (∃ q c n dd, parseC cite.data.toList = some q ∧ resolveE x er cite.data.toList = (n, dd, 0) ∧ citeE x er n q.1 dd = (c, 0) ∧ (-9223372036854775808 ≤ n ∧ n ≤ 9223372036854775807) ∧ (q.1 = 0 ∨ q.1 = 1 ∨ q.1 = 2) ∧
        ((!(q.1 == 0) || firstP (printV x er) n q.2.2.1 q.2.2.2) = true ↔ c = cite)) ∨
      ∃ e, resolveE x er cite.data.toList = (0, 0, e) ∧ (e = 4 ∨ e = 7) := by
  have hck := check_of h0 h
  have hl : er.length ≤ 1000 := by have := h.few; omega
  cases hp : parseC cite.data.toList with
  | none =>
    right
    refine ⟨4, ?_, .inl rfl⟩
    unfold resolveE
    rw [if_neg (by rw [hck]; decide), hp]
  | some q =>
    obtain ⟨htx, hok⟩ := parse_some hp
    have hst := (parseC_in hp).1
    by_cases h2 : q.1 = 2
    · have hda := hok.2.2.2.2 (by omega)
      have hdd : 0 ≤ q.2.2.1 ∧ q.2.2.1 ≤ 99999 := by unfold dayB withinB at hda; simpa using hda
      by_cases hf : (findE x er q.2.1 q.2.2.1).2.2 = 0
      · left
        have ha := find_anchor hck hda hf
        refine ⟨q, bytesOf (spell (iAt q.2.1 q.2.2.1)), q.2.1, q.2.2.1, rfl, ?_, ?_, by omega, hst, ?_⟩
        · unfold resolveE
          rw [if_neg (by rw [hck]; decide), hp]
          simp only
          rw [if_pos h2, if_neg (by rw [hf]; decide)]
        · unfold citeE
          rw [if_neg (by rw [hck]; decide), if_neg (by omega), if_pos h2, if_neg (by rw [hda]; decide), if_neg (by rw [hf]; decide)]
        · have e0 : (!(q.1 == 0) || firstP (printV x er) q.2.1 q.2.2.1 q.2.2.2) = true := by rw [h2]; rfl
          refine ⟨fun _ => ba_of_toList ?_, fun _ => e0⟩
          rw [at_text, htx]
          obtain ⟨a, b, c, d⟩ := q
          simp only at h2
          subst h2
          rfl
      · right
        refine ⟨7, ?_, .inr rfl⟩
        unfold resolveE
        rw [if_neg (by rw [hck]; decide), hp]
        simp only
        rw [if_pos h2, if_pos hf]
        rw [find_look h0 h _ hdd.1 hdd.2] at hf ⊢
        cases hq : look (afterR x er q.2.2.1) q.2.1 with
        | none => rfl
        | some e => rw [hq] at hf; exact absurd rfl hf
    · have hr : resolveE x er cite.data.toList = resolveR x.number x.bound x.height (printV x er) q.1 q.2.1 q.2.2.1 q.2.2.2 := by
        unfold resolveE
        rw [if_neg (by rw [hck]; decide), hp]
        simp only
        rw [if_neg h2]
      rw [hr]
      unfold resolveR
      cases hf : (printV x er).find? (hit x.number x.height q.1 q.2.1 q.2.2.1 q.2.2.2) with
      | none => exact .inr ⟨7, rfl, .inr rfl⟩
      | some p =>
        left
        have hpm := List.mem_of_find?_eq_some hf
        have hhit := List.find?_some hf
        have hm := printV_mem hck hs hl hpm
        have han : 1 ≤ p.anchor ∧ p.anchor ≤ 999 := by
          obtain ⟨i, hi, hpi⟩ := printL_mem (by unfold printV at hpm; exact hpm)
          have hz := check_sizes hck
          have htx2 : ∀ e ∈ (afterR x er x.bound).flatten, e.text.size ≤ 200 := fun e he => (textB_size (after_texts hck x.bound e he)).2
          obtain ⟨-, -, -, -, -, -, -, e, he, -, ha, -⟩ := rowPr_mem (m := 200) (by omega) (by omega) (by omega) _ (fun e he => htx2 e (List.mem_flatten.2 ⟨_, List.getElem_mem hi, he⟩)) (0, 0) ⟨by simp, by simp⟩ p hpi
          rw [ha]
          exact after_anchors hck x.bound e (List.mem_flatten.2 ⟨_, List.getElem_mem hi, he⟩)
        refine ⟨q, citeP x.number q.1 p, p.anchor, x.bound, rfl, rfl, cite_place h0 h hpm q.1 _ (by omega) (by omega), by omega, hst, ?_⟩
        have hnum : q.2.1 = x.number := by
          unfold hit at hhit
          simp only [Bool.and_eq_true, beq_iff_eq] at hhit
          exact hhit.2
        have hct : (citeP x.number q.1 p = cite) ↔ qOf x.number q.1 p = q := by
          constructor
          · intro e
            have e2 := congrArg (fun b : ByteArray => b.data.toList) e
            simp only [cite_text] at e2
            rw [htx] at e2
            exact spellQ_inj (qOf_ok hck hs hl q.1 hpm) hok e2
          · intro e
            refine ba_of_toList ?_
            rw [cite_text, e, htx]
        rw [hct]
        by_cases hz : q.1 = 0
        · have e1 : (!(q.1 == 0) || firstP (printV x er) p.anchor q.2.2.1 q.2.2.2) = firstP (printV x er) p.anchor q.2.2.1 q.2.2.2 := by rw [hz]; rfl
          rw [e1]
          unfold firstP qOf
          rw [if_pos hz, List.any_eq_true]
          obtain ⟨a, b, c, d⟩ := q
          simp only at hz hnum ⊢
          subst hz; subst hnum
          constructor
          · rintro ⟨p', hp', he⟩
            simp only [Bool.and_eq_true, beq_iff_eq] at he
            obtain rfl := anchor_inj h0 h hp' hpm he.1
            rw [he.2.1, he.2.2]
          · intro e
            simp only [Prod.mk.injEq, true_and] at e
            exact ⟨p, hpm, by simp [e.1, e.2]⟩
        · have e1 : (!(q.1 == 0) || firstP (printV x er) p.anchor q.2.2.1 q.2.2.2) = true := by
            have : (q.1 == 0) = false := by simpa using hz
            rw [this]; rfl
          refine ⟨fun _ => ?_, fun _ => e1⟩
          have h1 : q.1 = 1 := by omega
          unfold qOf
          rw [if_neg hz]
          unfold hit at hhit
          rw [if_neg hz] at hhit
          simp only [Bool.and_eq_true, beq_iff_eq] at hhit
          obtain ⟨a, b, c, d⟩ := q
          simp only at h1 hnum hhit ⊢
          rw [h1, hnum, hhit.1.1, hhit.1.2]
theorem place_at {x : Vol} {er : List Err} (h0 : checkVol x = 0) (h : EOk x er) {j : Nat} (hj : j < (placesL x er).length) : ∃ p ∈ printV x er, (placesL x er)[j].anchor = p.anchor := by
  have e : placesL x er = (printV x er).map Pr.plc := by unfold placesL; rw [if_pos (check_of h0 h)]
  simp only [e] at hj ⊢
  rw [List.getElem_map]
  exact ⟨_, List.getElem_mem (by simpa using hj), rfl⟩
end Go.Proofs.YtjkmdpejcgepkaaGreatDoor
