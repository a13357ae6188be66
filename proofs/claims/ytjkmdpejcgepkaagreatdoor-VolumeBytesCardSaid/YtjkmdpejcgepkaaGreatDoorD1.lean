/- spelled: a citation of words and numbers. -/
import Derived.Test.YtjkmdpejcgepkaaGreatDoorD0
import Derived.Test.YtjkmdpejcgepkaaGreatDoorS3
import Derived.Lib.ItoaLen
import Derived.WalkSmall
namespace Go.Proofs.YtjkmdpejcgepkaaGreatDoor
open Go.RowKit
inductive Item where
  | num (n : Int)
  | str (t : ByteArray)
def Item.val : Item → Value
  | .num n => .iface 3 (.int .i64 n)
  | .str t => .iface 9 (.string t)
def Item.txt : Item → List UInt8
  | .num n => Lib.itoa n
  | .str t => t.data.toList
def Item.fits : Item → Prop
  | .num n => -9223372036854775808 ≤ n ∧ n ≤ 9223372036854775807
  | .str t => t.size ≤ 1000
def spell (l : List Item) : List UInt8 := l.flatMap Item.txt
def EI : Enc Item := ⟨fun x => [x.val], 1, fun _ => rfl, fun x u hu => by cases x <;> (simp [Item.val] at hu; subst hu; rfl), by decide⟩
theorem Glob.below {w W : World} (h : Glob w) (hb : Below w.heap.size w W) : Glob W := by
  obtain ⟨h1, ⟨m, h2⟩, ⟨t1, p1, h3⟩, ⟨t2, p2, h4⟩⟩ := h
  have hc : ∀ (a : Addr) (v : Value), w.cell? a = some v → W.cell? a = some v := fun a v ha => (hb.cell (p := a) (World.block_lt_of_cell? w a ha)).trans ha
  exact ⟨var?_below hb (g := 0) (by kernel_rfl) (Nat.lt_of_le_of_lt (by decide) (World.block_lt_of_cell? w _ h3)) h1, ⟨m, hc _ _ h2⟩, ⟨t1, p1, hc _ _ h3⟩, ⟨t2, p2, hc _ _ h4⟩⟩
theorem IsBuilder.below {T e : TypeId} {B b : Nat} {bs : List Value} {w W : World} (h : Lib.IsBuilder T e B b bs w) (hb : Below w.heap.size w W) : Lib.IsBuilder T e B b bs W := by
  have H : ∀ p, Lib.BuilderAt T e B b p bs w → Lib.BuilderAt T e B b p bs W := fun p h => by
    have hlt := h.lt
    obtain ⟨hB, v, hh, ho, hn⟩ := h
    exact ⟨hB, v, by rw [hb.block b hlt]; exact hh, ho.kept (grownBy_of_below hb none) (by cases v.ownBlock <;> simp), hn⟩
  exact h.imp (H _) (H _)
theorem bytes_strCells (t : ByteArray) : Lib.strCells t = Lib.byteCells t.data.toList := rfl
theorem itoa_len (n : Int) (h : -9223372036854775808 ≤ n ∧ n ≤ 9223372036854775807) : (Lib.itoa n).length ≤ 100 := Nat.le_trans (Lib.itoa_length_le n h.1 h.2) (by omega)
theorem spell_len (l : List Item) (h : ∀ x ∈ l, x.fits) : (spell l).length ≤ l.length * 1000 := by
  refine flatMap_le l Item.txt 1000 fun i hi => ?_
  have := h i hi
  cases i with
  | num n => exact Nat.le_trans (itoa_len n this) (by omega)
  | str t => exact Nat.le_trans (Nat.le_of_eq (by simp [Item.txt])) this
theorem ta_int (v : Value) (W : World) : (Instr.typeAssert (.iface 3 v) 20 3 true).run Tryz.prog W = .ok (.tuple #[v, .bool true]) W := by kernel_rfl
theorem ta_str (v : Value) (W : World) : (Instr.typeAssert (.iface 9 v) 20 9 true).run Tryz.prog W = .ok (.tuple #[v, .bool true]) W := by kernel_rfl
theorem ta_no (v : Value) (W : World) : (Instr.typeAssert (.iface 9 v) 20 3 true).run Tryz.prog W = .ok (.tuple #[.int .i64 0, .bool false]) W := by kernel_rfl
def SpellPost (w : World) (l : List Item) (e : Ending) (w' : World) : Prop := e = .returned (.string ⟨(spell l).toArray⟩) ∧ Below w.heap.size w w'
set_option maxHeartbeats 2000000 in
set_option maxRecDepth 100000 in
theorem spelled_any (v : Value) (l : List Item) (w : World) (hv : Rd EI.f EI.k w v l) (hl : l.length ≤ 100) (hf : ∀ x ∈ l, x.fits) (hg : Glob w) : Calls Tryz.prog 38 #[v] w (SpellPost w l) := by
  obtain ⟨A, c, rfl, hc, hm, hr⟩ := id hv
  have HV := Lib.hid hv
  have HG := Lib.hid hg
  have HF := Lib.hid hf
  clear hv hg hf
  go_enter Tryz.func38, Tryz.ntmps38
  go_wp2
  have hI0 := Lib.fresh_isBuilder 143 5 w
  have hB0 : Below w.heap.size w (w.alloc (.cells #[.pointer none, .slice none 0 0] 143)) := (Below.refl _ _).alloc (Nat.le_refl _) _
  go_loopg [12] l.length (fun gg s12 wr => ∃ kk : Nat, kk ≤ l.length ∧ l.length - kk ≤ gg ∧ s12 = .int .i64 kk ∧ Aside (Lib.IsBuilder 143 5 w.heap.size w.heap.size (Lib.byteCells (spell (l.take kk))) wr ∧ Below w.heap.size w wr))
  case atStart => exact ⟨0, Nat.zero_le _, by omega, rfl, hI0, hB0⟩
  case round =>
    obtain ⟨kk, hkk, hg, rfl, A2⟩ := hrel
    have hI := A2.out.1
    have hBw := A2.out.2
    clear hI0 hB0
    by_cases hlt : kk < l.length
    · obtain ⟨b, off, rfl, hb, hr1⟩ := hr (by omega)
      clear hr
      have hc' := hr1.below hb hBw kk hlt 0 _ rfl
      have htk : Hid (spell (l.take (kk + 1)) = spell (l.take kk) ++ l[kk].txt) := Lib.hid (by rw [List.take_succ_eq_append_getElem hlt]; unfold spell; rw [List.flatMap_append, List.flatMap_cons, List.flatMap_nil, List.append_nil])
      have hfk := HF.out _ (List.getElem_mem hlt)
      have hsl := spell_len (l.take kk) (fun x hx => HF.out x (List.mem_of_mem_take hx))
      have hsl2 : (spell (l.take kk)).length ≤ 100000 := by
        have : (l.take kk).length ≤ 100 := by rw [List.length_take]; omega
        omega
      have hbW : b < wr.heap.size := Nat.lt_of_lt_of_le hb hBw.size
      have HGr := Lib.hid (HG.out.below hBw)
      have hzr := hBw.size
      have HBw := Lib.hid hBw
      have HI := Lib.hid hI
      simp only [Nat.add_zero, show EI.k = 1 from rfl, Nat.mul_one] at hc'
      clear A2 hr1 hsl hI hBw
      generalize spell (l.take kk) = P0 at HI htk hsl2
      generalize l[kk] = y at hc' htk hfk
      cases y with
      | num n =>
        dsimp only [Item.val, Item.fits] at hc' hfk
        have hln := itoa_len n hfk
        have hta := ta_int
        have hB1 : w.heap.size ≤ wr.heap.size := hzr
        go_wp2_with (first | (go_at_call 58; refine (itoa_any n hfk.1 hfk.2 _ HGr.out).mono ?_; rintro e w1 ⟨rfl, hb1⟩; have HI1 := Lib.hid (IsBuilder.below HI.out hb1); have hz1 := hb1.size) | (go_at_call 57; refine (writeString_any w.heap.size w.heap.size _ _ _ HI1.out (by rw [Lib.byteCells_length]; simp [ByteArray.size]; omega) (by omega)).mono ?_; rintro e w2 ⟨rfl, hI2, hb2⟩))
        go_roundg (l.length - (kk + 1))
        case measure => exact measT hg hlt
        case rel => exact ⟨kk + 1, hlt, Nat.le_refl _, by go_num, .inr (by rw [htk.out, Lib.byteCells_append]; exact hI2), (HBw.out.go hb1).trans hb2⟩
      | str t =>
        dsimp only [Item.val, Item.fits] at hc' hfk
        have hta := ta_no
        have hta2 := ta_str
        go_wp2_with (first | (go_at_call 57; refine (writeString_any w.heap.size w.heap.size _ _ _ HI.out (by rw [Lib.byteCells_length]; omega) (by omega)).mono ?_; rintro e w2 ⟨rfl, hI2, hb2⟩))
        go_roundg (l.length - (kk + 1))
        case measure => exact measT hg hlt
        case rel => exact ⟨kk + 1, hlt, Nat.le_refl _, by go_num, .inr (by rw [htk.out, Lib.byteCells_append]; exact hI2), HBw.out.trans hb2⟩
    · have : kk = l.length := by omega
      subst this
      rw [List.take_length] at hI
      have hz := hBw.size
      clear A2 hr
      go_wp2_with (first | (go_at_call 59; refine (builderString_any w.heap.size w.heap.size _ _ hI hz).mono ?_; rintro e w2 ⟨rfl, hb2⟩))
      go_ret
      exact ⟨rfl, hBw.trans hb2⟩
end Go.Proofs.YtjkmdpejcgepkaaGreatDoor
/- Cite: the citation of a paragraph. -/
namespace Go.Proofs.YtjkmdpejcgepkaaGreatDoor
open Go.RowKit
theorem rd_block {α : Type} (E : Enc α) {W : World} {b : Nat} {t : TypeId} {fr : Nat × Nat} (xs : List α) (hl : xs.length ≤ 1000000) (h : W.heap[b]? = some (.cells (flat E xs).toArray t fr)) : Rd E.f E.k W (.slice (some ⟨b, 0, none⟩) xs.length xs.length) xs := by
  refine ⟨_, xs.length, rfl, Nat.le_refl _, by omega, fun _ => ⟨_, _, rfl, (Array.getElem?_eq_some_iff.1 h).1, fun j hj i u hu => ?_⟩⟩
  have hi : i < E.k := by rw [← E.len xs[j]]; exact (List.getElem?_eq_some_iff.1 hu).1
  have := flat_get E xs j i hj hi
  simp only [World.cell?, h, Nat.zero_add]
  rw [List.getElem?_toArray, this]; exact hu
theorem rowPr_mem {ht wd col day : Int} (h1 : 1 ≤ ht) (h3 : 1 ≤ wd) (h4 : wd ≤ 1000) {m : Nat} (r : List Entry) (hr : ∀ e ∈ r, e.text.size ≤ m) (s : Int × Int) (h0 : 0 ≤ s.1 ∧ 0 ≤ s.2) (p : Pr) (hp : p ∈ rowPr ht wd col day s r) :
    col ≤ p.column ∧ p.column ≤ col + (s.1 + (r.length : Int) * ((m : Int) + 1000)) ∧ 1 ≤ p.line ∧ p.line ≤ ht ∧ p.day = day ∧ s.2 < p.number ∧ p.number ≤ s.2 + r.length ∧ ∃ e ∈ r, e.gone = false ∧ p.anchor = e.anchor ∧ p.lines = linesOf wd e.text := by
  induction r generalizing s with
  | nil => simp [rowPr] at hp
  | cons e r ih =>
    have hl := linesOf_le h3 (hr e (List.mem_cons_self ..)) h4
    have hr' := fun q hq => hr q (List.mem_cons_of_mem _ hq)
    have e1 : ((e :: r).length : Int) * ((m : Int) + 1000) = (r.length : Int) * ((m : Int) + 1000) + ((m : Int) + 1000) := by
      rw [List.length_cons]; push_cast; rw [Int.add_mul, Int.one_mul]
    have hm0 : (0 : Int) ≤ (r.length : Int) * ((m : Int) + 1000) := Int.mul_nonneg (by omega) (by omega)
    rw [rowPr] at hp
    cases hg : e.gone
    · rw [hg] at hp
      simp only [Bool.false_eq_true, if_false] at hp
      rcases List.mem_cons.1 hp with rfl | hp
      · have b1 : 0 ≤ s.1 / ht := Int.ediv_nonneg h0.1 (by omega)
        have b2 : s.1 / ht ≤ s.1 := Int.ediv_le_self ht h0.1
        have b3 : 0 ≤ s.1 % ht := Int.emod_nonneg s.1 (by omega)
        have b4 : s.1 % ht < ht := Int.emod_lt_of_pos s.1 (by omega)
        refine ⟨?_, ?_, ?_, ?_, rfl, ?_, ?_, e, List.mem_cons_self .., hg, rfl, rfl⟩
        · show col ≤ col + s.1 / ht; omega
        · show col + s.1 / ht ≤ _; rw [e1]; omega
        · show 1 ≤ s.1 % ht + 1; omega
        · show s.1 % ht + 1 ≤ ht; omega
        · show s.2 < s.2 + 1; omega
        · show s.2 + 1 ≤ _; rw [List.length_cons]; push_cast; omega
      · obtain ⟨q1, q2, q3, q4, q5, q6, q7, y, q8, q9⟩ := ih hr' _ ⟨by simp only; omega, by simp only; omega⟩ hp
        simp only at q1 q2 q6 q7
        refine ⟨q1, by rw [e1]; omega, q3, q4, q5, by omega, by rw [List.length_cons]; push_cast; omega, y, List.mem_cons_of_mem _ q8, q9⟩
    · rw [hg] at hp
      simp only [if_true] at hp
      obtain ⟨q1, q2, q3, q4, q5, q6, q7, y, q8, q9⟩ := ih hr' _ h0 hp
      refine ⟨q1, by rw [e1]; omega, q3, q4, q5, by omega, by rw [List.length_cons]; push_cast; omega, y, List.mem_cons_of_mem _ q8, q9⟩
theorem printL_mem {ht wd : Int} {days : List Int} {rows : List (List Entry)} {p : Pr} (hp : p ∈ printL ht wd days rows) : ∃ i, ∃ h : i < rows.length, p ∈ rowPr ht wd (colEnd ht wd (rows.take i)) (days.getD i 0) (0, 0) rows[i] := by
  unfold printL at hp
  obtain ⟨i, hi, hp⟩ := List.mem_flatMap.1 hp
  have hi : i < rows.length := by simpa using hi
  exact ⟨i, hi, by simpa [List.getD_eq_getElem?_getD, hi] using hp⟩
theorem valid_days {x : Vol} (h : x.valid = true) (i : Nat) (hi : i < x.parts.length) : 0 ≤ x.parts[i].day ∧ x.parts[i].day ≤ 99999 ∧ x.parts[i].day ≤ x.bound ∧ ∀ (j : Nat) (_ : j + 1 = i), x.parts[j].day < x.parts[i].day := by
  unfold Vol.valid daysB at h
  simp only [Bool.and_eq_true] at h
  have := List.all_eq_true.1 h.1 i (by simpa using hi)
  unfold dayAt dayB withinB at this
  rw [List.getD_eq_getElem?_getD, List.getElem?_eq_getElem hi] at this
  simp only [Option.getD_some, Bool.and_eq_true, decide_eq_true_eq, Bool.not_eq_true', decide_eq_false_iff_not, Bool.or_eq_true, beq_iff_eq] at this
  refine ⟨by omega, by omega, by omega, fun j hj => ?_⟩
  subst hj
  have := this.2
  rcases this with this | this
  · omega
  · rw [Nat.add_sub_cancel, List.getD_eq_getElem?_getD, List.getElem?_eq_getElem (by omega)] at this
    exact this
theorem printV_mem {x : Vol} {errata : List Err} (h : checkE x errata = 0) (hs : x.small) (hl : errata.length ≤ 1000) {p : Pr} (hp : p ∈ printV x errata) :
    1 ≤ p.column ∧ p.column ≤ 1000000000000 ∧ 1 ≤ p.line ∧ p.line ≤ x.height ∧ 0 ≤ p.day ∧ p.day ≤ 99999 ∧ 1 ≤ p.number ∧ p.number ≤ 2000 := by
  have hz := check_sizes h
  have hsm := afterR_small x errata x.bound hs hl
  have htx : ∀ e ∈ (afterR x errata x.bound).flatten, e.text.size ≤ 200 := fun e he => (textB_size (after_texts h x.bound e he)).2
  have hlen := afterR_length x errata x.bound
  unfold printV at hp
  obtain ⟨i, hi, hp⟩ := printL_mem hp
  have hrl : (afterR x errata x.bound)[i].length ≤ 2000 := hsm.2 _ (List.getElem_mem hi)
  obtain ⟨q1, q2, q3, q4, q5, q6, q7, -⟩ := rowPr_mem (m := 200) (by omega) (by omega) (by omega) _ (fun e he => htx e (List.mem_flatten.2 ⟨_, List.getElem_mem hi, he⟩)) (0, 0) ⟨by simp, by simp⟩ p hp
  have hc := colEnd_le (m := 200) (n := 2000) (wd := x.width) (ht := x.height) (by omega) (by omega) (by omega) (by omega) ((afterR x errata x.bound).take i) (fun r hr => textsLe_of htx r (List.mem_of_mem_take hr)) (fun r hr => hsm.2 r (List.mem_of_mem_take hr))
  have hl1 : ((afterR x errata x.bound).take i).length ≤ 100 := by rw [List.length_take]; have := hsm.1; omega
  have hm1 : (((afterR x errata x.bound).take i).length : Int) * (((2000 : Nat) : Int) * (((200 : Nat) : Int) + 1000) + 1000) ≤ 100 * (((2000 : Nat) : Int) * (((200 : Nat) : Int) + 1000) + 1000) := Int.mul_le_mul_of_nonneg_right (by omega) (by omega)
  have hm2 : ((afterR x errata x.bound)[i].length : Int) * (((200 : Nat) : Int) + 1000) ≤ 2000 * (((200 : Nat) : Int) + 1000) := Int.mul_le_mul_of_nonneg_right (by omega) (by omega)
  have hd := valid_days (checkVol_valid (checkE_ok h).1) i (by omega)
  have hdd : (x.parts.map (·.day)).getD i 0 = x.parts[i].day := by simp [List.getD_eq_getElem?_getD, show i < x.parts.length by omega]
  rw [hdd] at q5
  simp only at q2 q6 q7
  refine ⟨by omega, by omega, q3, q4, by omega, by omega, by omega, by omega⟩
def bVol : ByteArray := ⟨#[118, 111, 108, 46, 32]⟩
def bCol : ByteArray := ⟨#[44, 32, 99, 111, 108, 46, 32]⟩
def bL : ByteArray := ⟨#[44, 32, 108, 46, 32]⟩
def bSep : ByteArray := ⟨#[44, 32]⟩
def bPar : ByteArray := ⟨#[44, 32, 112, 97, 114, 46, 32]⟩
def bAt : ByteArray := ⟨#[64]⟩
def iCol (n : Int) (p : Pr) : List Item := [.str bVol, .num n, .str bCol, .num p.column, .str bL, .num p.line]
def iNum (n : Int) (p : Pr) : List Item := [.str bVol, .num n, .str bSep, .num p.day, .str bPar, .num p.number]
def iAt (a to : Int) : List Item := [.num a, .str bAt, .num to]
def bytesOf (l : List UInt8) : ByteArray := ⟨l.toArray⟩
def citeP (n : Int) (style : Int) (p : Pr) : ByteArray := bytesOf (spell (if style = 0 then iCol n p else iNum n p))
def citeR (n : Int) (pl : List Pr) (a style : Int) : ByteArray × Int :=
  match pl.find? (fun p => p.anchor == a) with
  | none => (⟨#[]⟩, 7)
  | some p => (citeP n style p, 0)
def citeE (x : Vol) (errata : List Err) (a style to : Int) : ByteArray × Int :=
  if checkE x errata ≠ 0 then (⟨#[]⟩, checkE x errata) else if 2 < style then (⟨#[]⟩, 2) else
  if style = 2 then (if dayB to = false then (⟨#[]⟩, 2) else if (findE x errata a to).2.2 ≠ 0 then (⟨#[]⟩, (findE x errata a to).2.2) else (bytesOf (spell (iAt a to)), 0))
  else citeR x.number (printV x errata) a style
def citeV (p : ByteArray × Int) : Value := .tuple #[.string p.1, .int .i64 p.2]
theorem find_at {pl : List Pr} {a : Int} {k : Nat} (hk : k < pl.length) (h : pl[k].anchor = a) (hn : ∀ j (_ : j < pl.length), j < k → pl[j].anchor ≠ a) : pl.find? (fun p => p.anchor == a) = some pl[k] := by
  rw [List.find?_eq_some_iff_getElem]
  exact ⟨by simpa using h, k, hk, rfl, fun j hj => by simpa using hn j (by omega) hj⟩
theorem find_no {pl : List Pr} {a : Int} (hn : ∀ j (_ : j < pl.length), j < pl.length → pl[j].anchor ≠ a) : pl.find? (fun p => p.anchor == a) = none := by
  rw [List.find?_eq_none]
  intro p hp
  obtain ⟨j, hj, rfl⟩ := List.mem_iff_getElem.1 hp
  simpa using hn j hj hj
end Go.Proofs.YtjkmdpejcgepkaaGreatDoor
