/- A number of a citation. -/
import Derived.Test.YtjkmdpejcgepkaaGreatDoorD3
import Derived.Lib.AtoiAllCases
namespace Go.Proofs.YtjkmdpejcgepkaaGreatDoor
open Go.RowKit
theorem atoi_ok (s : ByteArray) (hl : s.size ≤ 100000) (v : Int) (h : Lib.atoiAll s.data.toList = .ok v) (w : World) :
    Calls Tryz.prog 87 #[.string s] w fun e w' => e = .returned (.tuple #[.int .i64 v, .nilIface]) ∧ Below w.heap.size w w' :=
  (Any.strconv_Atoi_ok Tryz.laysC172 s (by omega) v h w).mono fun e w' ⟨he, hw⟩ => ⟨he, by
    rcases hw with rfl | ⟨t, rfl⟩
    · exact Below.refl _ _
    · exact ⟨rfl, rfl, rfl, by rw [Lib.bytesWorld_size]; omega, fun i hi => Lib.bytesWorld_at_old w _ t i (by omega)⟩⟩
theorem atoi_bad (s : ByteArray) (hl : s.size ≤ 100000) (h : ∀ v, Lib.atoiAll s.data.toList ≠ .ok v) (w : World) (hg : Glob w) :
    Calls Tryz.prog 87 #[.string s] w fun e w' => ∃ n N, e = .returned (.tuple #[.int .i64 n, .iface 213 (.pointer (some ⟨N, 0, none⟩))]) ∧ Below w.heap.size w w' := by
  cases hc : Lib.atoiAll s.data.toList with
  | ok v => exact absurd hc (h v)
  | range =>
    obtain ⟨te, pe, hv⟩ := hg.range
    exact (Any.strconv_Atoi_range Tryz.laysC172 s (by omega) hc _ w hv (.inr ⟨te, pe, rfl⟩)).mono fun e w' ⟨N, he, _, _, hb⟩ => ⟨_, N, he, hb⟩
  | _ =>
    obtain ⟨te, pe, hv⟩ := hg.synt
    exact (Any.strconv_Atoi_syntax Tryz.laysC172 s (by omega) hc _ w hv (.inr ⟨te, pe, rfl⟩)).mono fun e w' ⟨N, he, _, _, hb⟩ => ⟨_, N, he, hb⟩
/-- blocks of the library's variables lie below B -/
def GB (B : Nat) : Prop := 0 < B ∧ 1 < B ∧ 2 < B ∧ 3 < B
theorem Glob.gb {w : World} (h : Glob w) : GB w.heap.size := by
  obtain ⟨_, ⟨m, h2⟩, ⟨t1, p1, h3⟩, ⟨t2, p2, h4⟩⟩ := h
  have a2 := World.block_lt_of_cell? w _ h2; have a3 := World.block_lt_of_cell? w _ h3; have a4 := World.block_lt_of_cell? w _ h4
  exact ⟨Nat.lt_of_le_of_lt (by decide) a3, a2, a3, a4⟩
theorem Glob.belowB {B : Nat} {w W : World} (h : Glob w) (hB : GB B) (hb : Below B w W) : Glob W := by
  obtain ⟨h1, ⟨m, h2⟩, ⟨t1, p1, h3⟩, ⟨t2, p2, h4⟩⟩ := h
  obtain ⟨b0, b1, b2, b3⟩ := hB
  exact ⟨var?_below hb (g := 0) (by kernel_rfl) b0 h1, ⟨m, (hb.cell (p := ⟨1, 0, none⟩) b1).trans h2⟩, ⟨t1, p1, (hb.cell (p := ⟨2, 0, none⟩) b2).trans h3⟩, ⟨t2, p2, (hb.cell (p := ⟨3, 0, none⟩) b3).trans h4⟩⟩
/-- a number of a text, and what is behind it -/
def wordOf (e r : List UInt8) : Option (List UInt8 × List UInt8) := if e = [] then some (r, r) else if (Lib.cut r e).2.2 = true then some ((Lib.cut r e).1, (Lib.cut r e).2.1) else none
def numOf (word : List UInt8) : Option Int := match Lib.atoiAll word with
  | .ok v => if Lib.itoa v = word ∧ 0 ≤ v ∧ v ≤ 999999 then some v else none
  | _ => none
def numC (e r : List UInt8) : Option (Int × List UInt8) := match wordOf e r with
  | none => none
  | some p => (numOf p.1).map fun v => (v, p.2)
def oddV (cite : ByteArray) : Ending := .panicked [{ v := .iface 153 (.agg #[.string cite]), recovered := false }]
def NumPost (w : World) (base rb : Nat) (cite : ByteArray) (o : Option (Int × List UInt8)) (e : Ending) (w' : World) : Prop :=
  Below base w w' ∧ w.grownBy w' (some rb) ∧ match o with
    | some p => e = .returned (.int .i64 p.1) ∧ w'.heap[rb]? = some (.cells #[.string (bytesOf p.2)] 9 (0, 0))
    | none => e = oddV cite
end Go.Proofs.YtjkmdpejcgepkaaGreatDoor
/- A number of a citation: the walk. -/
namespace Go.Proofs.YtjkmdpejcgepkaaGreatDoor
open Go.RowKit
theorem bytesOf_data (s : ByteArray) : bytesOf s.data.toList = s := rfl
set_option maxHeartbeats 4000000 in
set_option maxRecDepth 100000 in
theorem num_any (en r cite : ByteArray) (rb cb base : Nat) (w : World) (hr : w.heap[rb]? = some (.cells #[.string r] 9 (0, 0))) (hc : w.heap[cb]? = some (.cells #[.string cite] 9 (0, 0))) (hne : rb ≠ cb)
    (hb : base ≤ rb) (hl : r.size ≤ 100000) (hg : Glob w) (hgb : GB base) :
    Calls Tryz.prog 85 #[.string en, .pointer (some ⟨rb, 0, none⟩), .pointer (some ⟨cb, 0, none⟩)] w (NumPost w base rb cite (numC en.data.toList r.data.toList)) := by
  have cr : w.cell? ⟨rb, 0, none⟩ = some (.string r) := by simp [World.cell?, hr]
  have cc : w.cell? ⟨cb, 0, none⟩ = some (.string cite) := by simp [World.cell?, hc]
  have fr : w.frozen? ⟨rb, 0, none⟩ = false := by simp [World.frozen?, hr]
  have lr : rb < w.heap.size := World.block_lt_of_cell? w _ cr
  have lc : cb < w.heap.size := World.block_lt_of_cell? w _ cc
  have hbw : base ≤ w.heap.size := by omega
  have HG := Lib.hid hg
  have HR := Lib.hid hr
  clear hr hc
  by_cases he : en.data.toList = []
  · have he1 : en.toList = [] := by rw [Lib.toList_data]; exact he
    have he2 : (!en.toList.isEmpty) = false := by simp [he1]
    have hw : wordOf en.data.toList r.data.toList = some (r.data.toList, r.data.toList) := by unfold wordOf; rw [if_pos he]
    have R : Hid (numC en.data.toList r.data.toList = (numOf r.data.toList).map fun v => (v, r.data.toList)) := Lib.hid (by unfold numC; rw [hw])
    generalize numC _ _ = rs at R ⊢
    have hwl := hl
    have HGW := HG
    have FIN : ∀ (w1 : World) (e : Ending), Below w.heap.size w w1 → rs = none → e = oddV cite → NumPost w base rb cite rs e w1 := fun w1 e h1 h2 h3 => ⟨h1.mono hbw, grownBy_of_below h1 _, by rw [h2]; exact h3⟩
    have FINS : ∀ (w1 : World) (v : Int), Below w.heap.size w w1 → rs = some (v, r.data.toList) → NumPost w base rb cite rs (.returned (.int .i64 v)) w1 := fun w1 v h1 h2 => ⟨h1.mono hbw, grownBy_of_below h1 _, by rw [h2]; exact ⟨rfl, by rw [h1.block rb lr]; exact HR.out⟩⟩
    have HFIN := Lib.hid FIN
    have HFINS := Lib.hid FINS
    clear hw he FIN FINS
    by_cases hat : ∃ v, Lib.atoiAll r.data.toList = .ok v
    · obtain ⟨v, hv⟩ := hat
      have hvb := Lib.atoiAll_bounds hv
      by_cases hin : Lib.itoa v = r.data.toList
      · have hq : (Lib.itoa v == r.toList) = true := by rw [Lib.toList_data, hin]; simp
        cases hwi : withinB v 0 999999
        · have HL := Lib.hid (show rs = none by rw [R.out]; unfold numOf; rw [hv]; dsimp only; rw [if_neg (by rintro ⟨_, h⟩; unfold withinB at hwi; simp at hwi; omega)]; rfl)
          have HV := Lib.hid hv
          clear R hv hin
          go_enter Tryz.func85, Tryz.ntmps85
          go_wp2_with (first | (go_at_call 87; refine (atoi_ok r hwl v HV.out _).mono ?_; rintro e w1 ⟨rfl, hb1⟩; obtain ⟨hc1, hf1⟩ := bcell hb1) | (go_at_call 58; refine (itoa_any v hvb.1 hvb.2 _ (HGW.out.below hb1)).mono ?_; rintro e w2 ⟨rfl, hb2⟩; obtain ⟨hc2, hf2⟩ := bcell hb2; have hz1 := hb1.size; have lc1 : cb < w1.heap.size := by omega) | (go_at_call 40; refine (within_any _ _ _ _).mono ?_; rintro e w' ⟨rfl, rfl⟩; rw [hwi]))
          exact ⟨rfl, HFIN.out w2 _ (hb1.go hb2) HL.out rfl⟩
        · have HL := Lib.hid (show rs = some (v, r.data.toList) by rw [R.out]; unfold numOf; rw [hv]; dsimp only; rw [if_pos ⟨hin, by unfold withinB at hwi; simpa using hwi⟩]; rfl)
          have HV := Lib.hid hv
          clear R hv hin
          go_enter Tryz.func85, Tryz.ntmps85
          go_wp2_with (first | (go_at_call 87; refine (atoi_ok r hwl v HV.out _).mono ?_; rintro e w1 ⟨rfl, hb1⟩; obtain ⟨hc1, hf1⟩ := bcell hb1) | (go_at_call 58; refine (itoa_any v hvb.1 hvb.2 _ (HGW.out.below hb1)).mono ?_; rintro e w2 ⟨rfl, hb2⟩; obtain ⟨hc2, hf2⟩ := bcell hb2; have hz1 := hb1.size; have lc1 : cb < w1.heap.size := by omega) | (go_at_call 40; refine (within_any _ _ _ _).mono ?_; rintro e w' ⟨rfl, rfl⟩; rw [hwi]))
          go_ret
          exact HFINS.out w2 v (hb1.go hb2) HL.out
      · have hq : (Lib.itoa v == r.toList) = false := by rw [Lib.toList_data]; simpa using hin
        have HL := Lib.hid (show rs = none by rw [R.out]; unfold numOf; rw [hv]; dsimp only; rw [if_neg (fun h => hin h.1)]; rfl)
        have HV := Lib.hid hv
        clear R hv hin
        go_enter Tryz.func85, Tryz.ntmps85
        go_wp2_with (first | (go_at_call 87; refine (atoi_ok r hwl v HV.out _).mono ?_; rintro e w1 ⟨rfl, hb1⟩; obtain ⟨hc1, hf1⟩ := bcell hb1) | (go_at_call 58; refine (itoa_any v hvb.1 hvb.2 _ (HGW.out.below hb1)).mono ?_; rintro e w2 ⟨rfl, hb2⟩; obtain ⟨hc2, hf2⟩ := bcell hb2; have hz1 := hb1.size; have lc1 : cb < w1.heap.size := by omega) | (go_at_call 40; refine (within_any _ _ _ _).mono ?_; rintro e w' ⟨rfl, rfl⟩; rw [hwi]))
        exact ⟨rfl, HFIN.out w2 _ (hb1.go hb2) HL.out rfl⟩
    · have hbad : ∀ v, Lib.atoiAll r.data.toList ≠ .ok v := fun v hv => hat ⟨v, hv⟩
      have HL := Lib.hid (show rs = none by rw [R.out]; unfold numOf; cases h : Lib.atoiAll r.data.toList with | ok v => exact absurd h (hbad v) | _ => rfl)
      have HBD := Lib.hid hbad
      clear R hat hbad
      go_enter Tryz.func85, Tryz.ntmps85
      go_wp2_with (first | (go_at_call 87; refine (atoi_bad r hwl HBD.out _ HGW.out).mono ?_; rintro e w1 ⟨n, N, rfl, hb1⟩; obtain ⟨hc1, hf1⟩ := bcell hb1))
      exact ⟨rfl, HFIN.out w1 _ hb1 HL.out rfl⟩
  · have he1 : ¬ en.toList = [] := by rw [Lib.toList_data]; exact he
    have he2 : (!en.toList.isEmpty) = true := by simp [he1]
    have he3 : en.toList.isEmpty = false := by simp [he1]
    have hcut := cut_any r en w hg (by omega)
    have hcl : (Lib.cut r.data.toList en.data.toList).1.length ≤ r.size ∧ (Lib.cut r.data.toList en.data.toList).2.1.length ≤ r.size := by
      unfold Lib.cut
      split
      · simp only [List.length_take, List.length_drop, Array.length_toList]; exact ⟨Nat.min_le_right _ _, Nat.sub_le _ _⟩
      · simp
    have hw : wordOf en.data.toList r.data.toList = if (Lib.cut r.data.toList en.data.toList).2.2 = true then some ((Lib.cut r.data.toList en.data.toList).1, (Lib.cut r.data.toList en.data.toList).2.1) else none := by unfold wordOf; rw [if_neg he]
    have R0 : Hid (numC en.data.toList r.data.toList = if (Lib.cut r.data.toList en.data.toList).2.2 = true then (numOf (Lib.cut r.data.toList en.data.toList).1).map fun v => (v, (Lib.cut r.data.toList en.data.toList).2.1) else none) := Lib.hid (by
      unfold numC; rw [hw]
      by_cases h : (Lib.cut r.data.toList en.data.toList).2.2 = true
      · rw [if_pos h, if_pos h]
      · rw [if_neg h, if_neg h])
    generalize numC _ _ = rs at R0 ⊢
    generalize Lib.cut r.data.toList en.data.toList = cu at hcut hcl R0
    obtain ⟨c1, c2, c3⟩ := cu
    dsimp only at hcut hcl R0
    clear hw he
    cases c3
    · have HL := Lib.hid (show rs = none by rw [R0.out]; rfl)
      clear R0
      go_enter Tryz.func85, Tryz.ntmps85
      go_wp2_with (first | (go_at_call 86; refine hcut.mono ?_; rintro e w1 ⟨rfl, n, rfl⟩))
      exact ⟨rfl, (Below.refl _ _).drewN n, grownBy_of_below ((Below.refl _ _).drewN n) _, by rw [HL.out]; rfl⟩
    have R1 : Hid (rs = (numOf c1).map fun v => (v, c2)) := Lib.hid (by rw [R0.out]; rfl)
    clear R0
    obtain ⟨wd, hwd⟩ : ∃ wd : ByteArray, wd = ⟨c1.toArray⟩ := ⟨_, rfl⟩
    have hwd1 : c1 = wd.data.toList := by rw [hwd]
    have R : Hid (rs = (numOf wd.data.toList).map fun v => (v, c2)) := Lib.hid (by rw [R1.out, hwd1])
    have hwl : wd.size ≤ 100000 := by rw [hwd]; show c1.toArray.size ≤ _; simp; omega
    rw [← hwd] at hcut
    clear hwd hwd1 R1
    have hst : ∀ n : Nat, ∃ W2 : World, W2 = (w.drewN n).setCell ⟨rb, 0, none⟩ (.string ⟨c2.toArray⟩) := fun n => ⟨_, rfl⟩
    have WF : Hid (∀ (n : Nat) (W2 : World), W2 = (w.drewN n).setCell ⟨rb, 0, none⟩ (.string ⟨c2.toArray⟩) → Glob W2 ∧ W2.cell? ⟨cb, 0, none⟩ = some (.string cite) ∧ cb < W2.heap.size ∧
        (∀ (w1 : World) (e : Ending), Below W2.heap.size W2 w1 → rs = none → e = oddV cite → NumPost w base rb cite rs e w1) ∧
        (∀ (w1 : World) (v : Int), Below W2.heap.size W2 w1 → rs = some (v, c2) → NumPost w base rb cite rs (.returned (.int .i64 v)) w1)) := Lib.hid fun n W2 hW => by
      have hbs : Below base w W2 := by rw [hW]; exact ((Below.refl base w).drewN n).setCell (p := ⟨rb, 0, none⟩) hb _
      have hgr : w.grownBy W2 (some rb) := by
        rw [hW]; exact (grownBy_of_below ((Below.refl w.heap.size w).drewN n) (some rb)).trans (Lib.grownBy_setCell (w.drewN n) rb 0 _)
      have hzz : W2.heap.size = w.heap.size := by rw [hW]; simp [World.size_setCell]
      have hrb : W2.heap[rb]? = some (.cells #[.string ⟨c2.toArray⟩] 9 (0, 0)) := by
        rw [hW]; simp only [World.setCell, Array.getElem?_modify]; simp [HR.out]
      refine ⟨HG.out.belowB hgb hbs, ?_, by rw [hzz]; exact lc, ?_, ?_⟩
      · rw [cell_far hgr ⟨cb, 0, none⟩ lc (by simp; exact fun e => hne e.symm)]; exact cc
      · intro w1 e h1 h2 h3
        exact ⟨hbs.trans (h1.mono (by rw [hzz]; exact hbw)), hgr.trans (grownBy_of_below h1 _), by rw [h2]; exact h3⟩
      · intro w1 v h1 h2
        exact ⟨hbs.trans (h1.mono (by rw [hzz]; exact hbw)), hgr.trans (grownBy_of_below h1 _), by rw [h2]; exact ⟨rfl, by rw [h1.block rb (by rw [hzz]; exact lr)]; exact hrb⟩⟩
    clear hst
    by_cases hat : ∃ v, Lib.atoiAll wd.data.toList = .ok v
    · obtain ⟨v, hv⟩ := hat
      have hvb := Lib.atoiAll_bounds hv
      by_cases hin : Lib.itoa v = wd.data.toList
      · have hq : (Lib.itoa v == wd.toList) = true := by rw [Lib.toList_data, hin]; simp
        cases hwi : withinB v 0 999999
        · have HL := Lib.hid (show rs = none by rw [R.out]; unfold numOf; rw [hv]; dsimp only; rw [if_neg (by rintro ⟨_, h⟩; unfold withinB at hwi; simp at hwi; omega)]; rfl)
          have HV := Lib.hid hv
          clear R hv hin
          go_enter Tryz.func85, Tryz.ntmps85
          go_wp2_with (first | (go_at_call 86; refine hcut.mono ?_; rintro e w0 ⟨rfl, n0, rfl⟩))
          obtain ⟨W2, hW2⟩ : ∃ W2 : World, W2 = (w.drewN n0).setCell ⟨rb, 0, none⟩ (.string ⟨c2.toArray⟩) := ⟨_, rfl⟩
          obtain ⟨g1, ccW, lcW, g4, g5⟩ := WF.out n0 W2 hW2
          have HGW := Lib.hid g1; have HFIN := Lib.hid g4; have HFINS := Lib.hid g5
          rw [← hW2]
          clear hW2 g1 g4 g5 cr cc fr
          go_wp2_with (first | (go_at_call 87; refine (atoi_ok wd hwl v HV.out _).mono ?_; rintro e w1 ⟨rfl, hb1⟩; obtain ⟨hc1, hf1⟩ := bcell hb1) | (go_at_call 58; refine (itoa_any v hvb.1 hvb.2 _ (HGW.out.below hb1)).mono ?_; rintro e w2 ⟨rfl, hb2⟩; obtain ⟨hc2, hf2⟩ := bcell hb2; have hz1 := hb1.size; have lc1 : cb < w1.heap.size := by omega) | (go_at_call 40; refine (within_any _ _ _ _).mono ?_; rintro e w' ⟨rfl, rfl⟩; rw [hwi]))
          exact ⟨rfl, HFIN.out w2 _ (hb1.go hb2) HL.out rfl⟩
        · have HL := Lib.hid (show rs = some (v, c2) by rw [R.out]; unfold numOf; rw [hv]; dsimp only; rw [if_pos ⟨hin, by unfold withinB at hwi; simpa using hwi⟩]; rfl)
          have HV := Lib.hid hv
          clear R hv hin
          go_enter Tryz.func85, Tryz.ntmps85
          go_wp2_with (first | (go_at_call 86; refine hcut.mono ?_; rintro e w0 ⟨rfl, n0, rfl⟩))
          obtain ⟨W2, hW2⟩ : ∃ W2 : World, W2 = (w.drewN n0).setCell ⟨rb, 0, none⟩ (.string ⟨c2.toArray⟩) := ⟨_, rfl⟩
          obtain ⟨g1, ccW, lcW, g4, g5⟩ := WF.out n0 W2 hW2
          have HGW := Lib.hid g1; have HFIN := Lib.hid g4; have HFINS := Lib.hid g5
          rw [← hW2]
          clear hW2 g1 g4 g5 cr cc fr
          go_wp2_with (first | (go_at_call 87; refine (atoi_ok wd hwl v HV.out _).mono ?_; rintro e w1 ⟨rfl, hb1⟩; obtain ⟨hc1, hf1⟩ := bcell hb1) | (go_at_call 58; refine (itoa_any v hvb.1 hvb.2 _ (HGW.out.below hb1)).mono ?_; rintro e w2 ⟨rfl, hb2⟩; obtain ⟨hc2, hf2⟩ := bcell hb2; have hz1 := hb1.size; have lc1 : cb < w1.heap.size := by omega) | (go_at_call 40; refine (within_any _ _ _ _).mono ?_; rintro e w' ⟨rfl, rfl⟩; rw [hwi]))
          go_ret
          exact HFINS.out w2 v (hb1.go hb2) HL.out
      · have hq : (Lib.itoa v == wd.toList) = false := by rw [Lib.toList_data]; simpa using hin
        have HL := Lib.hid (show rs = none by rw [R.out]; unfold numOf; rw [hv]; dsimp only; rw [if_neg (fun h => hin h.1)]; rfl)
        have HV := Lib.hid hv
        clear R hv hin
        go_enter Tryz.func85, Tryz.ntmps85
        go_wp2_with (first | (go_at_call 86; refine hcut.mono ?_; rintro e w0 ⟨rfl, n0, rfl⟩))
        obtain ⟨W2, hW2⟩ : ∃ W2 : World, W2 = (w.drewN n0).setCell ⟨rb, 0, none⟩ (.string ⟨c2.toArray⟩) := ⟨_, rfl⟩
        obtain ⟨g1, ccW, lcW, g4, g5⟩ := WF.out n0 W2 hW2
        have HGW := Lib.hid g1; have HFIN := Lib.hid g4; have HFINS := Lib.hid g5
        rw [← hW2]
        clear hW2 g1 g4 g5 cr cc fr
        go_wp2_with (first | (go_at_call 87; refine (atoi_ok wd hwl v HV.out _).mono ?_; rintro e w1 ⟨rfl, hb1⟩; obtain ⟨hc1, hf1⟩ := bcell hb1) | (go_at_call 58; refine (itoa_any v hvb.1 hvb.2 _ (HGW.out.below hb1)).mono ?_; rintro e w2 ⟨rfl, hb2⟩; obtain ⟨hc2, hf2⟩ := bcell hb2; have hz1 := hb1.size; have lc1 : cb < w1.heap.size := by omega) | (go_at_call 40; refine (within_any _ _ _ _).mono ?_; rintro e w' ⟨rfl, rfl⟩; rw [hwi]))
        exact ⟨rfl, HFIN.out w2 _ (hb1.go hb2) HL.out rfl⟩
    · have hbad : ∀ v, Lib.atoiAll wd.data.toList ≠ .ok v := fun v hv => hat ⟨v, hv⟩
      have HL := Lib.hid (show rs = none by rw [R.out]; unfold numOf; cases h : Lib.atoiAll wd.data.toList with | ok v => exact absurd h (hbad v) | _ => rfl)
      have HBD := Lib.hid hbad
      clear R hat hbad
      go_enter Tryz.func85, Tryz.ntmps85
      go_wp2_with (first | (go_at_call 86; refine hcut.mono ?_; rintro e w0 ⟨rfl, n0, rfl⟩))
      obtain ⟨W2, hW2⟩ : ∃ W2 : World, W2 = (w.drewN n0).setCell ⟨rb, 0, none⟩ (.string ⟨c2.toArray⟩) := ⟨_, rfl⟩
      obtain ⟨g1, ccW, lcW, g4, g5⟩ := WF.out n0 W2 hW2
      have HGW := Lib.hid g1; have HFIN := Lib.hid g4; have HFINS := Lib.hid g5
      rw [← hW2]
      clear hW2 g1 g4 g5 cr cc fr
      go_wp2_with (first | (go_at_call 87; refine (atoi_bad wd hwl HBD.out _ HGW.out).mono ?_; rintro e w1 ⟨n, N, rfl, hb1⟩; obtain ⟨hc1, hf1⟩ := bcell hb1))
      exact ⟨rfl, HFIN.out w1 _ hb1 HL.out rfl⟩
end Go.Proofs.YtjkmdpejcgepkaaGreatDoor
