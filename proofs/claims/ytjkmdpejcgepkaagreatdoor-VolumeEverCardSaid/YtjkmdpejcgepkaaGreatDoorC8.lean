/- The iterator over errata that were issued up to a day. -/
import Derived.Test.YtjkmdpejcgepkaaGreatDoorC7
import Derived.RangeFuncNested
import Derived.RangeFuncBound
import Derived.RangeFuncCalls
import Derived.RangeFuncLeaves
import Derived.RangeFuncKeeps
import Derived.OwnWalkIn
import Derived.TacticsInMore
import Derived.LoopNIn
import Derived.LoopIn
import Derived.Maps.OwnIn
import Derived.Outline
namespace Go.Proofs.YtjkmdpejcgepkaaGreatDoor
open Go.RowKit
attribute [local go_sem] Oper.semAt_some
/-- what a round keeps: blocks of errata, and of whole numbers -/
def KeepT (W W' : World) : Prop := ∀ (k : Nat) (cs : Array Value) (t : TypeId) (fr : Nat × Nat), (t = 77 ∨ t = 3) → W.heap[k]? = some (Obj.cells cs t fr) → W'.heap[k]? = some (Obj.cells cs t fr)
theorem KeepT.refl (W : World) : KeepT W W := fun _ _ _ _ _ h => h
theorem KeepT.trans {A B C : World} (h : KeepT A B) (k : KeepT B C) : KeepT A C := fun i cs t fr ht hi => k i cs t fr ht (h i cs t fr ht hi)
theorem KeepT.below {W W' : World} (h : Below W.heap.size W W') : KeepT W W' := fun k cs t fr _ hk => by rw [h.block k (Array.getElem?_eq_some_iff.1 hk).1]; exact hk
theorem KeepT.grown {W W' : World} {row : Option Nat} (h : W.grownBy W' row) (hr : ∀ k, row = some k → ∀ cs t fr, W.heap[k]? = some (.cells cs t fr) → t ≠ 77 ∧ t ≠ 3) : KeepT W W' := fun k cs t fr ht hk => by
  rw [h.block k (Array.getElem?_eq_some_iff.1 hk).1 (fun e => by have := hr k e.symm cs t fr hk; rcases ht with ht | ht <;> simp_all)]; exact hk
theorem KeepT.putObj (W : World) (l : Nat) (o o' : Obj) (hl : W.heap[l]? = some o) (ho : o.isCells = false) : KeepT W (W.putObj l o') := fun k cs t fr _ hk => by
  have : k ≠ l := by rintro rfl; rw [hl] at hk; injection hk with hk; subst hk; simp [Obj.isCells] at ho
  rw [World.putObj_heap_other this]; exact hk
/-- errata that were issued up to a day, in their order -/
def issuedL (errata : List Err) (to : Int) : List Err := (sortE errata).takeWhile fun x => !(decide (to < x.day))
theorem takeWhile_stop {α : Type} (p : α → Bool) (l : List α) (k : Nat) (hk : k < l.length) (h : ∀ j (hj : j < l.length), j < k → p l[j] = true) (hn : p l[k] = false) : l.takeWhile p = l.take k := by
  induction l generalizing k with
  | nil => simp at hk
  | cons x l ih =>
    cases k with
    | zero => simp only [List.getElem_cons_zero] at hn; simp [hn]
    | succ k =>
      have h0 := h 0 (by simp) (by omega)
      simp only [List.getElem_cons_zero] at h0
      simp only [List.takeWhile_cons, h0, if_true, List.take_succ_cons]
      rw [ih k (by simpa using hk) (fun j hj hjk => by have := h (j + 1) (by simpa using hj) (by omega); simpa using this) (by simpa using hn)]
theorem takeWhile_all {α : Type} (p : α → Bool) (l : List α) (h : ∀ j (hj : j < l.length), p l[j] = true) : l.takeWhile p = l := by
  induction l with
  | nil => rfl
  | cons x l ih =>
    have h0 := h 0 (by simp)
    simp only [List.getElem_cons_zero] at h0
    rw [List.takeWhile_cons, h0, if_pos rfl, ih (fun j hj => by have := h (j + 1) (by simpa using hj); simpa using this)]
theorem take_prefix_takeWhile {α : Type} (p : α → Bool) (l : List α) (k : Nat) (hk : k ≤ l.length) (h : ∀ j (hj : j < l.length), j < k → p l[j] = true) : l.take k <+: l.takeWhile p := by
  induction l generalizing k with
  | nil => simp
  | cons x l ih =>
    cases k with
    | zero => simp
    | succ k =>
      have h0 := h 0 (by simp) (by omega)
      simp only [List.getElem_cons_zero] at h0
      simp only [List.takeWhile_cons, h0, if_true, List.take_succ_cons]
      rw [List.cons_prefix_cons]
      exact ⟨rfl, ih k (by simpa using hk) (fun j hj hjk => by have := h (j + 1) (by simpa using hj) (by omega); simpa using this)⟩
theorem lift_list {α : Type} {C : α → Prop} (l : List α) (h : ∀ x ∈ l, C x) : ∃ l' : List {x : α // C x}, l'.map (·.1) = l := by
  induction l with
  | nil => exact ⟨[], rfl⟩
  | cons x l ih =>
    obtain ⟨l', h'⟩ := ih fun y hy => h y (List.mem_cons_of_mem _ hy)
    exact ⟨⟨x, h x (List.mem_cons_self ..)⟩ :: l', by simp [h']⟩
set_option maxHeartbeats 2000000 in
theorem issued1_stops (n : Nat) (w : World) (eb tb : Nat) (ev : Value) (errata : List Err) (to : Int) (he : w.heap[eb]? = some (.cells #[ev] 39 (0, 0))) (ht : w.heap[tb]? = some (.cells #[.int .i64 to] 3 (0, 0)))
    (hr : RdE w ev errata) (hl : errata.length ≤ 1000000) (C : Err → Prop) (hC : ∀ x ∈ errata, C x) :
    SeqStopsK Fence.wide n Tryz.prog 77 #[.pointer (some ⟨eb, 0, none⟩), .pointer (some ⟨tb, 0, none⟩)] (fun x : {x : Err // C x} => #[x.1.val]) KeepT (fun xs => xs.map (·.1) = issuedL errata to) (fun pre => pre.map (·.1) <+: issuedL errata to) errata.length w := by
  intro l J Jx W hW hJ hJx hY h0
  have heb := (Array.getElem?_eq_some_iff.1 he).1
  have htb := (Array.getElem?_eq_some_iff.1 ht).1
  have ce : W.cell? ⟨eb, 0, none⟩ = some ev := by rw [hW.cell (p := ⟨eb, 0, none⟩) heb]; simp [World.cell?, he]
  have hT : W.heap[tb]? = some (.cells #[.int .i64 to] 3 (0, 0)) := by rw [hW.block tb htb]; exact ht
  have hrW := Rd.below hr hW
  obtain ⟨A0, c0, rfl, -⟩ := id hr
  clear he ht hr
  refine callsIn_of_wp Tryz.func77 rfl trivial ?_ rfl
  simp only [Tryz.ntmps77, List.size_toArray, List.length_cons, List.length_nil, Nat.reduceAdd, Nat.reduceSub, Array.replicate_succ, Array.replicate_zero, List.push_toArray, List.append_toArray, List.nil_append, List.cons_append]
  have hcl := clone_any _ errata W hrW hl
  gi_wp2
  refine ⟨trivial, fun h => by simp [Fence.wide] at h, ?_⟩
  refine (callsIn_wide.2 hcl).mono ?_
  rintro e w1 ⟨v1, rfl, hO1, hB1⟩
  gi_wp2
  refine ⟨trivial, fun h => by simp [Fence.wide] at h, ?_⟩
  refine (callsIn_wide.2 (sort_any v1 errata w1 W.heap.size hO1 hl)).mono ?_
  rintro e w2 ⟨rfl, hO2, hB2⟩
  have hB : Below W.heap.size W w2 := hB1.trans hB2
  have hJ2 : J [] w2 := hJ [] W w2 none h0 (grownBy_of_below hB none) (fun r e => by cases e)
  have hT2 : w2.heap[tb]? = some (.cells #[.int .i64 to] 3 (0, 0)) := by rw [hB.block tb (Nat.lt_of_lt_of_le htb hW.size)]; exact hT
  have hsl : (sortE errata).length = errata.length := (sortE_spec errata).2.1
  have hCs : ∀ x ∈ sortE errata, C x := fun x hx => hC x ((sortE_spec errata).1.mem_iff.1 hx)
  have hIL : issuedL errata to = (sortE errata).takeWhile fun x => !(decide (to < x.day)) := rfl
  have HIL := Lib.hid hIL
  generalize sortE errata = ss at hO2 hsl hIL HIL hCs
  obtain ⟨ss', hss⟩ := lift_list ss hCs
  have hls : ss'.length = ss.length := by rw [← hss, List.length_map]
  have hmt : ∀ k, (ss'.take k).map (·.1) = ss.take k := fun k => by rw [← hss, List.map_take]
  have hgt : ∀ k (h : k < ss.length) (h' : k < ss'.length), (ss'[k]).1 = ss[k] := fun k h h' => by simp [← hss]
  have HL := Lib.hid hls; have HM := Lib.hid hmt; have HG := Lib.hid hgt
  clear hls hmt hgt hss hCs hC
  clear hcl hO1 hB1 hB2 hrW ce hT h0 hW heb hIL
  have HS := Lib.hid hsl
  have hm : (ss.length : Int) ≤ 1000000 := by omega
  clear hsl
  obtain ⟨A1, c1, rfl, hc1, -, hrow⟩ := id hO2.rd
  -- the row's block
  have hblk : 0 < ss.length → ∃ g cur, A1 = some ⟨g, 0, none⟩ ∧ w2.heap[g]? = some (.cells cur 77 (0, 0)) ∧ RowAt EE.f EE.k w2 g 0 ss := by
    intro h
    rcases hO2.2 with ⟨e, _⟩ | ⟨g, cap, cur, e, _, hh, _⟩
    · injection e with e1 e2 e3; omega
    · injection e with e1 e2 e3
      obtain ⟨b, off, e4, _, hr⟩ := hrow h
      rw [e1] at e4
      injection e4 with e4
      injection e4 with e5 e6 e7
      subst e5; subst e6
      exact ⟨g, cur, e1, hh, hr⟩
  clear hrow hO2
  gi_wp2
  gi_loopw [6, 13] (fun s6 s13 wr => ∃ kk : Nat, kk ≤ ss.length ∧ s13 = .int .i64 kk ∧ Aside (J (ss'.take kk) wr ∧ KeepT w2 wr ∧ ∀ j (h : j < ss.length), j < kk → (!(decide (to < ss[j].day))) = true)) (fun _ s13 _ => ss.length - (intOf s13).toNat)
  case atStart => exact ⟨0, Nat.zero_le _, rfl, by simpa using hJ2, KeepT.refl _, fun j _ hj => absurd hj (Nat.not_lt_zero _)⟩
  case round =>
    obtain ⟨kk, hkk, rfl, A⟩ := hrel
    by_cases hlt : kk < ss.length
    · obtain ⟨g, cur, rfl, hg, hra⟩ := hblk (by omega)
      clear hblk
      have hg' := A.out.2.1 g cur 77 (0, 0) (.inl rfl) hg
      have ht' := A.out.2.1 tb _ 3 (0, 0) (.inr rfl) hT2
      have hgz := (Array.getElem?_eq_some_iff.1 hg').1
      have htz := (Array.getElem?_eq_some_iff.1 ht').1
      have ct : wr.cell? ⟨tb, 0, none⟩ = some (.int .i64 to) := by simp [World.cell?, ht']
      have hc' : ∀ i u, (EE.f ss[kk])[i]? = some u → wr.cell? ⟨g, kk * 6 + i, none⟩ = some u := fun i u hu => by
        have h := hra kk hlt i u hu
        rw [Nat.zero_add, show EE.k = 6 from rfl] at h
        simp only [World.cell?, hg] at h
        simp only [World.cell?, hg']
        exact h
      have hlt' : kk < ss'.length := by have := HL.out; omega
      have hts : Hid (ss'.take (kk + 1) = ss'.take kk ++ [ss'[kk]]) := Lib.hid (List.take_succ_eq_append_getElem hlt')
      have hYY := hY (ss'.take kk) ss'[kk]
      rw [HG.out kk hlt hlt'] at hYY
      have hpre : (ss'.take kk).length < errata.length := by rw [List.length_take]; have := HS.out; omega
      have hgo : Hid ((!(decide (to < ss[kk].day))) = true → ∀ j (h : j < ss.length), j < kk + 1 → (!(decide (to < ss[j].day))) = true) := Lib.hid fun h j hj hjk => by
        by_cases e : j = kk
        · subst e; exact h
        · exact A.out.2.2 j hj (by omega)
      have hstop : Hid ((!(decide (to < ss[kk].day))) = false → issuedL errata to = ss.take kk) := Lib.hid fun h => by
        rw [HIL.out]
        exact takeWhile_stop _ ss kk hlt A.out.2.2 h
      have hpfx : Hid ((!(decide (to < ss[kk].day))) = true → ss.take (kk + 1) <+: issuedL errata to) := Lib.hid fun h => by
        rw [HIL.out]
        exact take_prefix_takeWhile _ ss (kk + 1) hlt (hgo.out h)
      have HJ := Lib.hid hJ
      have hAJ := Lib.hid A.out.1
      have hAK := Lib.hid A.out.2.1
      clear A hY hJ hJx hra hJ2
      generalize ss[kk] = y at hc' hYY hgo hstop hpfx
      obtain ⟨y0, y1, y2, y3, y4, y5⟩ := y
      have c0 := hc' 0 _ rfl; have c1 := hc' 1 _ rfl; have c2 := hc' 2 _ rfl; have c3 := hc' 3 _ rfl; have c4 := hc' 4 _ rfl; have c5 := hc' 5 _ rfl
      clear hc'
      simp only [Nat.add_zero] at c0
      dsimp only at hgo hstop hpfx
      by_cases hday : to < y1
      · have hL := Lib.hid (hstop.out (by simp [hday]))
        have hday' : decide (to < y1) = true := by simpa using hday
        clear hYY hgo hpfx hts hstop
        gi_wp2
        refine ⟨fun _ h => (by cases h), ?_⟩
        gi_wp2
        first | go_end0 | refine bodyPost_ret (results_none rfl _ _ _) rfl ?_
        refine ⟨⟨_, rfl⟩, .inl ⟨ss'.take kk, by rw [HM.out, hL.out], ?_⟩⟩
        exact HJ.out _ wr _ none hAJ.out (World.grownBy_alloc _ _ _) (fun r e => by cases e)
      · have hday' : decide (to < y1) = false := by simpa using hday
        have hG := Lib.hid (hgo.out (by simp [hday]))
        have hP := Lib.hid (hpfx.out (by simp [hday]))
        clear hgo hpfx hstop
        obtain ⟨fn, tmps, assign, body, hy, hR⟩ := hYY (wr.alloc (.cells #[.int .i64 y0, .int .i64 y1, .int .u8 y2, .int .i64 y3, .string y4, .int .i64 y5] 77))
          (HJ.out _ wr _ none hAJ.out (World.grownBy_alloc _ _ _) (fun r e => by cases e)) hpre
        clear hYY
        dsimp only [Err.val] at hy
        gi_wp2
        refine ⟨fun h => by simp [Fence.wide] at h, ?_⟩
        refine hR.mono ?_
        rintro e W' (⟨rfl, hJ', hk⟩ | ⟨rfl, hJx'⟩)
        · gi_wp2
          go_roundw
          case rel =>
            have hk1 : KeepT wr W' := (KeepT.below ((Below.refl _ wr).alloc (Nat.le_refl _) _)).trans hk
            refine ⟨kk + 1, by omega, by go_num, ?_, hAK.out.trans hk1, hG.out⟩
            rw [hts.out]; exact hJ'
          case measure => simp [intOf]; omega
        · gi_wp2
          first | go_end0 | refine bodyPost_ret (results_none rfl _ _ _) rfl ?_
          refine ⟨⟨_, rfl⟩, .inr ⟨ss'.take (kk + 1), by rw [HM.out]; exact hP.out, ?_⟩⟩
          rw [hts.out]; exact hJx'
    · have : kk = ss.length := by omega
      subst this
      have hAA := Lib.hid A.out
      clear A hY hJ hJx hblk hJ2
      gi_wp2
      first | go_end0 | refine bodyPost_ret (results_none rfl _ _ _) rfl ?_
      refine ⟨⟨_, rfl⟩, .inl ⟨ss'.take ss.length, ?_, hAA.out.1⟩⟩
      rw [HM.out, HIL.out, takeWhile_all _ ss (fun j hj => hAA.out.2.2 j hj hj), List.take_length]
end Go.Proofs.YtjkmdpejcgepkaaGreatDoor
