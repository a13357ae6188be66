/- check: the error of a volume with errata. -/
import Derived.Test.YtjkmdpejcgepkaaGreatDoorC7
namespace Go.Proofs.YtjkmdpejcgepkaaGreatDoor
open Go.RowKit
/-- numbers and new anchors are fresh -/
def fresh : List Int → List Int → List Err → Bool
  | _, _, [] => true
  | th, nu, x :: l => !(decide (x.number ∈ nu) || x.kind == 2 && decide (x.new ∈ th)) && fresh (if x.kind = 2 then x.new :: th else th) (x.number :: nu) l
def numsOf (nu : List Int) (l : List Err) : List Int := l.foldl (fun acc x => x.number :: acc) nu
theorem numsOf_snoc (nu : List Int) (l : List Err) (x : Err) : numsOf nu (l ++ [x]) = x.number :: numsOf nu l := by simp [numsOf]
theorem fresh_snoc (th nu : List Int) (l : List Err) (x : Err) : fresh th nu (l ++ [x]) = (fresh th nu l && !(decide (x.number ∈ numsOf nu l) || x.kind == 2 && decide (x.new ∈ accOf th l))) := by
  induction l generalizing th nu with
  | nil => simp only [List.nil_append, fresh, accOf, numsOf, List.foldl_nil, Bool.and_true, Bool.true_and]; rfl
  | cons y l ih =>
    rw [List.cons_append, fresh, fresh, ih, Bool.and_assoc]
    rfl
theorem fresh_append (th nu : List Int) (l m : List Err) (h : fresh th nu l = false) : fresh th nu (l ++ m) = false := by
  induction l generalizing th nu with
  | nil => simp [fresh] at h
  | cons y l ih =>
    rw [fresh, Bool.and_eq_false_iff] at h
    rw [List.cons_append, fresh, Bool.and_eq_false_iff]
    exact h.imp id (ih _ _)
theorem fresh_take (th nu : List Int) (l : List Err) (k : Nat) (h : fresh th nu (l.take k) = false) : fresh th nu l = false := by
  rw [← List.take_append_drop k l]
  exact fresh_append _ _ _ _ h
theorem checkVol_valid {x : Vol} (h : checkVol x = 0) : x.valid = true := by
  unfold checkVol at h
  split at h
  · simp at h
  · split at h
    · simp at h
    · rename_i h1
      simpa using h1
theorem err_keyed {x : Err} (h : x.ok = true) : x.keyed ∧ inI64 x.number := by
  unfold Err.ok at h
  simp only [Bool.and_eq_true] at h
  obtain ⟨⟨⟨h1, _⟩, h2⟩, h3⟩ := h
  have a1 := anchorB_in h2
  have a0 : 1 ≤ x.number ∧ x.number ≤ 999 := by unfold withinB at h1; simpa using h1
  refine ⟨⟨inI64_of (by omega) (by omega), ?_⟩, inI64_of (by omega) (by omega)⟩
  split at h3
  · simp only [Bool.and_eq_true, beq_iff_eq] at h3
    rw [h3.2]; exact inI64_of (by omega) (by omega)
  · split at h3
    · simp only [Bool.and_eq_true, beq_iff_eq] at h3
      rw [h3.2]; exact inI64_of (by omega) (by omega)
    · split at h3
      · simp only [Bool.and_eq_true] at h3
        have a2 := anchorB_in h3.2
        exact inI64_of (by omega) (by omega)
      · simp at h3
theorem wp_set_lookup_g {w : World} {ops : Array Oper} {rest : List Oper} {o : Oper} {a : Act} {Q : Exit → Act → World → Prop} (hw : Region.wanted o (yielded ops a.tmps) = true) (m x : Operand) (hop : o.op = Op.lookup 124 m x false) (b n : Nat) (acc : List Int) (key : Int)
    (hm : a.eval m = .map (some b)) (hown : OwnSet w b n acc) (hx : a.eval x = .int .i64 key) (hk : inI64 key)
    (hK : wpList Tryz.prog ops Q rest (a.put o.dst (.bool (decide (key ∈ acc)))) w) : wpList Tryz.prog ops Q (o :: rest) a w := by
  refine wpList_step fun K' hK' => ?_
  simp only [hw, if_true]
  unfold Oper.wp
  simp [execOp, hop, hm, hx, run_set_lookup hown key hk, Result.andThen]
  exact hK' _ _ hK
theorem cell_far {w w' : World} {row : Option Nat} (hg : w.grownBy w' row) (a : Addr) (hlt : a.block < w.heap.size) (hne : some a.block ≠ row) : w'.cell? a = w.cell? a := by
  simp only [World.cell?, hg.block a.block hlt hne]
theorem cell_after {w w' : World} {cs : Array Value} {t : TypeId} {nb : Nat} (hg : (w.alloc (.cells cs t)).grownBy w' (some nb)) (h : nb < w.heap.size) (i : Nat) : w'.cell? ⟨w.heap.size, i, none⟩ = cs[i]? := by
  rw [cell_far hg ⟨w.heap.size, i, none⟩ (by simp) (by simp; omega), World.cell?_alloc_new]
def checkE (x : Vol) (errata : List Err) : Int :=
  if checkVol x ≠ 0 then checkVol x else if 20 < errata.length then 3 else if errata.all Err.ok = false then 1 else
  if fresh (ancs x.paras).reverse [] errata = false then 6 else anchored x errata
set_option maxHeartbeats 4000000 in
theorem check_any (v ev : Value) (x : Vol) (errata : List Err) (w : World) (hv : IsVol w v x) (hs : x.small) (he : RdE w ev errata) (hl : errata.length ≤ 1000000) (hf : ∀ y ∈ errata, y.fits) :
    Calls Tryz.prog 33 #[v, ev] w fun e w' => e = .returned (.int .i64 (checkE x errata)) ∧ Below w.heap.size w w' := by
  have hmm := @run_makeMap Tryz.prog
  obtain ⟨sv, rfl, A, c, rfl, hc, hm, hr⟩ := id hv
  obtain ⟨A0, c0, rfl, -⟩ := id he
  have hpl : x.paras.length ≤ 100000 := by
    have := take_paras_le x.parts x.parts.length hs.1 (fun p hp => (hs.2 p hp).1)
    rwa [List.take_length] at this
  have hCV : ∀ W, Below w.heap.size w W → Calls Tryz.prog 27 #[x.val (.slice A x.parts.length c)] W fun e w' => e = .returned (.int .i64 (checkVol x)) ∧ Below W.heap.size W w' := fun W hW => CheckVolume_any _ x W (hv.below hW) hs
  have hpar : ∀ W, Below w.heap.size w W → Calls Tryz.prog 47 #[x.val (.slice A x.parts.length c)] W (ParasPost W x.paras) := fun W hW => paragraphs_any _ x W (hv.below hW) hs
  have hall : ∀ W, Below w.heap.size w W → Calls Tryz.prog 52 #[.slice A0 errata.length c0, .func (.func 53) #[] #[]] W fun e w' => e = .returned (.bool (errata.all Err.ok)) ∧ Below W.heap.size W w' := fun W hW =>
    all_err errata _ 53 #[] Err.fits Err.ok W (Rd.below he hW) hf (enters_of Tryz.func53 (by kernel_rfl) rfl) (errValid_pred _)
  have hanc : errata.all Err.ok = true → (∀ p ∈ x.paras, inI64 p.anchor) → ∀ W, Below w.heap.size w W → Calls Tryz.prog 54 #[x.val (.slice A x.parts.length c), .slice A0 errata.length c0] W fun e w' => e = .returned (.int .i64 (anchored x errata)) ∧ Below W.heap.size W w' := fun ho hp W hW =>
    anchored_any _ _ x errata W (hv.below hW) hs (Rd.below he hW) hl (fun y hy => (err_keyed (List.all_eq_true.1 ho y hy)).1) hp
  have hpk : checkVol x = 0 → ∀ p ∈ x.paras, inI64 p.anchor := fun h0 p hp => by
    have h1 := valid_paras (checkVol_valid h0) p hp
    exact inI64_of (by omega) (by omega)
  have R : Hid (checkE x errata = if checkVol x ≠ 0 then checkVol x else if 20 < errata.length then 3 else if errata.all Err.ok = false then 1 else
    if fresh (ancs x.paras).reverse [] errata = false then 6 else anchored x errata) := Lib.hid rfl
  clear hv hs hr
  obtain ⟨n0, n1, n2, n3, ps⟩ := x
  dsimp only [Vol.val] at hCV hpar hanc R hc hm ⊢
  generalize checkE _ _ = r at R ⊢
  generalize anchored _ _ = ra at R hanc
  generalize checkVol _ = rc at R hCV hpk
  generalize (Vol.mk n0 n1 n2 n3 ps).paras = l at R hpar hpl hpk hanc
  have hB1 : Below w.heap.size w (w.alloc (.cells #[.int .i64 n0, .int .i64 n1, .int .i64 n2, .int .i64 n3, .slice A ps.length c] 37)) := (Below.refl _ _).alloc (Nat.le_refl _) _
  have hCV1 := hCV _ hB1
  clear hCV
  by_cases h0 : rc = 0
  case neg =>
    have HN := Lib.hid (show r = rc by rw [R.out, if_pos h0])
    have h0' : (rc != 0) = true := by simpa using h0
    clear R hpk hanc hpar hall
    go_enter Tryz.func33, Tryz.ntmps33
    go_wp2_with (go_at_call 27; refine hCV1.mono ?_; rintro e w1 ⟨rfl, hb1⟩)
    go_ret
    exact ⟨ret_int HN.out.symm, hB1.go hb1⟩
  have h0' : (rc != 0) = false := by simpa using h0
  have R1 : Hid (r = if 20 < errata.length then 3 else if errata.all Err.ok = false then 1 else
    if fresh (ancs l).reverse [] errata = false then 6 else ra) := Lib.hid (by rw [R.out, if_neg (by simpa using h0)])
  have hpk' := hpk h0
  clear R hpk
  by_cases h20 : 20 < errata.length
  · have HN := Lib.hid (show r = 3 by rw [R1.out, if_pos h20])
    have h20' : (20 : Int) < (errata.length : Int) := by omega
    clear R1 hanc hpar hall
    go_enter Tryz.func33, Tryz.ntmps33
    go_wp2_with (go_at_call 27; refine hCV1.mono ?_; rintro e w1 ⟨rfl, hb1⟩)
    go_ret
    exact ⟨ret_int HN.out.symm, hB1.go hb1⟩
  have h20' : decide ((20 : Int) < (errata.length : Int)) = false := by simp; omega
  have h20n : decide (20 < errata.length) = false := by simp; omega
  have R2 : Hid (r = if errata.all Err.ok = false then 1 else if fresh (ancs l).reverse [] errata = false then 6 else ra) := Lib.hid (by rw [R1.out, if_neg h20])
  clear R1
  cases hao : errata.all Err.ok
  · have HN := Lib.hid (show r = 1 by rw [R2.out, if_pos hao])
    clear R2 hanc hpar
    rw [hao] at hall
    go_enter Tryz.func33, Tryz.ntmps33
    go_wp2_with (go_at_call 27; refine hCV1.mono ?_; rintro e w1 ⟨rfl, hb1⟩)
    refine (hall _ (hB1.go hb1)).mono ?_
    rintro e w2 ⟨rfl, hb2⟩
    go_wp2
    go_ret
    exact ⟨ret_int HN.out.symm, (hB1.go hb1).go hb2⟩
  have R3 : Hid (r = if fresh (ancs l).reverse [] errata = false then 6 else ra) := Lib.hid (by rw [R2.out, if_neg (by simp [hao])])
  have hanc' := hanc hao hpk'
  have hkey : ∀ y ∈ errata, y.keyed ∧ inI64 y.number := fun y hy => err_keyed (List.all_eq_true.1 hao y hy)
  rw [hao] at hall
  clear R2 hanc hao
  go_enter Tryz.func33, Tryz.ntmps33
  go_wp2_with (go_at_call 27; refine hCV1.mono ?_; rintro e w1 ⟨rfl, hb1⟩; obtain ⟨hc1, hf1⟩ := bcell hb1)
  refine (hall _ (hB1.go hb1)).mono ?_
  rintro e w2 ⟨rfl, hb2⟩
  have hB2 := (hB1.go hb1).go hb2
  have hBx : Below (w.heap.size + 1) (w.alloc (.cells #[.int .i64 n0, .int .i64 n1, .int .i64 n2, .int .i64 n3, .slice A ps.length c] 37)) w2 := by
    have h1 := hb1.size
    have h2 := hb1.trans (hb2.mono h1)
    rwa [World.size_alloc] at h2
  have hz2 : w.heap.size + 1 ≤ w2.heap.size := by have h := hBx.size; rwa [World.size_alloc] at h
  clear hc1 hf1 hb1 hb2 hB1 hCV1 hall h20' h20n h0'
  have hvc : ∀ W, Below w2.heap.size w2 W → w.heap.size < W.heap.size ∧ W.cell? ⟨w.heap.size, 0, none⟩ = some (.int .i64 n0) ∧ W.cell? ⟨w.heap.size, 1, none⟩ = some (.int .i64 n1) ∧ W.cell? ⟨w.heap.size, 2, none⟩ = some (.int .i64 n2) ∧ W.cell? ⟨w.heap.size, 3, none⟩ = some (.int .i64 n3) ∧ W.cell? ⟨w.heap.size, 4, none⟩ = some (.slice A ps.length c) := by
    intro W hW
    have hBw := hBx.trans (hW.mono hz2)
    have hzz := hW.size
    refine ⟨by omega, ?_, ?_, ?_, ?_, ?_⟩ <;> (rw [hBw.cell (p := ⟨w.heap.size, _, none⟩) (by simp)]; simp [go_sem])
  clear hBx
  obtain ⟨hlt0, k0, k1, k2, k3, k4⟩ := hvc w2 (Below.refl _ _)
  have hBA : Below w2.heap.size w2 ((w2.alloc (.map #[] 0)).alloc (.map #[] 0)) := ((Below.refl _ _).alloc (Nat.le_refl _) _).alloc (by simp) _
  have hT0 := (OwnSet.made w2).alloc (.map #[] 0)
  have hN0 := OwnSet.made (w2.alloc (.map #[] 0))
  rw [World.size_alloc] at hN0
  have hpar2 := hpar _ (hB2.go hBA)
  clear hpar
  go_wp2_with (go_at_call 47; refine hpar2.mono ?_; rintro e w3 ⟨pv, rfl, hO, hb3⟩; obtain ⟨A1, c1, rfl, hc1, -, -⟩ := id hO.rd)
  have hz3 := hb3.size
  rw [World.size_alloc, World.size_alloc] at hz3
  have hT3 := hT0.below hb3
  have hN3 := hN0.below hb3
  have hB3 := hBA.go hb3
  have hA3 : Below w.heap.size w w3 := hB2.go hB3
  clear hT0 hN0 hBA hpar2 hb3
  rw [World.size_alloc, World.size_alloc] at hO
  have hal : (ancs l).length = l.length := by simp [ancs]
  obtain ⟨nb, hnb⟩ : ∃ nb, w2.heap.size + 1 = nb := ⟨_, rfl⟩
  obtain ⟨mb, hmb⟩ : ∃ mb, w2.heap.size = mb := ⟨_, rfl⟩
  have hne1 : some mb ≠ some nb := by simp; omega
  rw [hnb] at hN3 ⊢
  rw [hmb] at hT3 ⊢
  go_loopg [9, 30] l.length (fun gg s9 s30 wr => ∃ kk : Nat, kk ≤ l.length ∧ l.length - kk ≤ gg ∧ s30 = .int .i64 kk ∧ Aside (w3.grownBy wr (some mb) ∧ OwnSet wr mb kk ((ancs l).take kk).reverse))
  case atStart => exact ⟨0, Nat.zero_le _, by omega, rfl, World.grownBy.refl _ _, hT3⟩
  case round =>
    obtain ⟨kk, hkk, hg, rfl, A⟩ := hrel
    have hg1 := A.out.1
    have hS := A.out.2
    by_cases hlt : kk < l.length
    · obtain ⟨A3, c3, e3, _, _, hr3⟩ := (hO.grown hg1 (by
        rcases hob : (Value.slice A1 l.length c1).ownBlock with _ | g
        · exact .inl rfl
        · right; intro e; injection e with e; have := (hO.lt g hob).1; omega)).rd
      obtain ⟨b, off, rfl, hbl, hrow⟩ := hr3 (by omega)
      simp only [Value.slice.injEq] at e3
      obtain ⟨rfl, -, rfl⟩ := e3
      clear hr3
      have hin := hpk' _ (List.getElem_mem hlt)
      have hc' := hrow kk hlt
      have hga : Hid ((ancs l)[kk]'(by omega) = l[kk].anchor) := Lib.hid (by simp [ancs])
      have hrev : Hid (((ancs l).take (kk + 1)).reverse = l[kk].anchor :: ((ancs l).take kk).reverse) := Lib.hid (by
          rw [List.take_succ_eq_append_getElem (by omega), List.reverse_append, hga.out]; rfl)
      clear hga
      generalize l[kk] = y at hc' hin hrev
      obtain ⟨ya, yt⟩ := y
      dsimp only at hin hrev
      have c0' := hc' 0 _ rfl; have c1' := hc' 1 _ rfl
      clear hc' hrow
      have ek : EP.k = 2 := rfl
      simp only [Nat.add_zero, ek] at c0' c1'
      clear ek
      have hkk2 : kk < maxLen := by unfold maxLen; omega
      have hS' := hS.alloc (.cells #[.int .i64 ya, .string yt] 67)
      clear A hS
      generalize ((ancs l).take kk).reverse = acc at hS' hrev
      go_wp2_with (at_mapUpdate; refine wp_set_put rfl _ _ _ rfl mb kk acc ya rfl hS' hkk2 rfl rfl hin ?_; intro w4 hS3 hg3)
      go_roundg (l.length - (kk + 1))
      case measure => omega
      case rel =>
        refine ⟨kk + 1, by omega, by omega, by go_num, (hg1.trans (World.grownBy_alloc _ _ _)).trans hg3, ?_⟩
        rw [hrev.out]; exact hS3
    · have : kk = l.length := by omega
      subst this
      rw [List.take_of_length_le (by omega)] at hS
      have hN4 := hN3.grown hg1 (by simp; omega)
      have hB4 : Below w2.heap.size w2 wr := hB3.grown hg1 (by omega) (fun k e => by cases e; omega)
      have hz4 := hg1.size
      clear A hT3 hN3 hO hB3 hA3 hg1 k0 k1 k2 k3 k4
      clear hlt
      have hwr : w2.heap.size + 1 + 1 ≤ wr.heap.size := by omega
      clear hz4 hz3
      go_wp2
      have hT4 := hS
      clear hS
      have hm1 : errata.length ≤ 20 := by omega
      go_loopg [11, 40] errata.length (fun gg s11 s40 wq => ∃ kk : Nat, kk ≤ errata.length ∧ errata.length - kk ≤ gg ∧ s40 = .int .i64 kk ∧ Aside (Below w2.heap.size w2 wq ∧ OwnSet wq mb (l.length + kk) (accOf (ancs l).reverse (errata.take kk)) ∧ OwnSet wq nb kk (numsOf [] (errata.take kk)) ∧ fresh (ancs l).reverse [] (errata.take kk) = true))
      case atStart => exact ⟨0, Nat.zero_le _, by omega, rfl, hB4, by simpa [accOf] using hT4, by simpa [numsOf] using hN4, by simp [fresh]⟩
      case round =>
        obtain ⟨kk, hkk, hg, rfl, A⟩ := hrel
        have hB5 := A.out.1
        by_cases hlt : kk < errata.length
        · obtain ⟨A3, c3, e3, _, _, hr3⟩ := Rd.below he (hB2.go hB5)
          obtain ⟨b, off, rfl, hbl, hrow⟩ := hr3 (by omega)
          simp only [Value.slice.injEq] at e3
          obtain ⟨rfl, -, rfl⟩ := e3
          clear hr3
          have hin := hkey _ (List.getElem_mem hlt)
          have hc' := hrow kk hlt
          have hts : errata.take (kk + 1) = errata.take kk ++ [errata[kk]] := List.take_succ_eq_append_getElem hlt
          have hac := Lib.hid (accOf_snoc (ancs l).reverse (errata.take kk) errata[kk])
          have hnu := Lib.hid (numsOf_snoc [] (errata.take kk) errata[kk])
          have hfr := Lib.hid (fresh_snoc (ancs l).reverse [] (errata.take kk) errata[kk])
          have hbad : Hid (fresh (ancs l).reverse [] (errata.take (kk + 1)) = false → r = 6) := Lib.hid fun h => by rw [R3.out, if_pos (fresh_take _ _ _ _ h)]
          rw [A.out.2.2.2] at hfr
          rw [← hts] at hac hnu hfr
          have hT5 := A.out.2.1
          have hN5 := A.out.2.2.1
          generalize errata[kk] = y at hc' hin hac hnu hfr
          clear hts A
          generalize hth : accOf (ancs l).reverse (errata.take (kk + 1)) = th' at hac
          replace hth := Lib.hid hth
          generalize accOf (ancs l).reverse (errata.take kk) = th at hac hfr hT5
          generalize hnn : numsOf [] (errata.take (kk + 1)) = nu' at hnu
          replace hnn := Lib.hid hnn
          generalize numsOf [] (errata.take kk) = nu at hnu hfr hN5
          generalize hff : fresh (ancs l).reverse [] (errata.take (kk + 1)) = fr' at hfr hbad
          replace hff := Lib.hid hff
          obtain ⟨y0, y1, y2, y3, y4, y5⟩ := y
          dsimp only [Err.keyed] at hin hac hnu hfr
          obtain ⟨⟨hi3, hi5⟩, hi0⟩ := hin
          have d0 := hc' 0 _ rfl; have d1 := hc' 1 _ rfl; have d2 := hc' 2 _ rfl; have d3 := hc' 3 _ rfl; have d4 := hc' 4 _ rfl; have d5 := hc' 5 _ rfl
          clear hc' hrow
          have ek : EE.k = 6 := rfl
          simp only [Nat.add_zero, ek] at d0 d1 d2 d3 d4 d5
          clear ek
          have hT6 := hT5.alloc (.cells #[.int .i64 y0, .int .i64 y1, .int .u8 y2, .int .i64 y3, .string y4, .int .i64 y5] 77)
          have hN6 := hN5.alloc (.cells #[.int .i64 y0, .int .i64 y1, .int .u8 y2, .int .i64 y3, .string y4, .int .i64 y5] 77)
          have hkk2 : kk < maxLen := by unfold maxLen; omega
          have hlk2 : l.length + kk < maxLen := by unfold maxLen; omega
          have hzq : nb < wr.heap.size := hN5.lt
          by_cases hn : y0 ∈ nu
          · have hdn : decide (y0 ∈ nu) = true := by simpa using hn
            have HN := Lib.hid (hbad.out (by rw [hfr.out, hdn]; rfl))
            clear hac hnu hfr hbad hT5 hN5
            go_wp2_with (at_lookup; refine wp_set_lookup rfl _ _ rfl nb kk nu y0 rfl hN6 rfl hi0 ?_; rw [hdn])
            go_ret
            exact ⟨ret_int HN.out.symm, (hB2.go hB5).alloc (by omega) _⟩
          have hdn : decide (y0 ∈ nu) = false := by simpa using hn
          by_cases hk2 : y2 = 2
          · subst hk2
            by_cases ht : y5 ∈ th
            · have hdt : decide (y5 ∈ th) = true := by simpa using ht
              have HN := Lib.hid (hbad.out (by rw [hfr.out, hdn, hdt]; rfl))
              clear hac hnu hfr hbad hT5 hN5
              go_wp2_with (at_lookup; first | (refine wp_set_lookup (by simp only) _ _ rfl nb kk nu y0 rfl hN6 rfl hi0 ?_; rw [hdn]) | (refine wp_set_lookup_g (by simp [Region.wanted, yielded]) _ _ rfl mb (l.length + kk) th y5 rfl hT6 rfl hi5 ?_; rw [hdt]))
              go_ret
              exact ⟨ret_int HN.out.symm, (hB2.go hB5).alloc (by omega) _⟩
            · have hdt : decide (y5 ∈ th) = false := by simpa using ht
              have HF := Lib.hid (show fr' = true by rw [hfr.out, hdn, hdt]; rfl)
              clear hfr hbad hT5 hN5
              go_wp2_with (first | (at_lookup; first | (refine wp_set_lookup (by simp only) _ _ rfl nb kk nu y0 rfl hN6 rfl hi0 ?_; rw [hdn]) | (refine wp_set_lookup_g (by simp [Region.wanted, yielded]) _ _ rfl mb (l.length + kk) th y5 rfl hT6 rfl hi5 ?_; rw [hdt])) | (at_mapUpdate; first | (refine wp_set_put rfl _ _ _ rfl nb kk nu y0 rfl hN6 hkk2 rfl rfl hi0 ?_; intro w6 hN7 hg6; have hT7 := hT6.grown hg6 hne1; have q2 := cell_after hg6 hzq 2; have q5 := cell_after hg6 hzq 5) | (refine wp_set_put rfl _ _ _ rfl mb (l.length + kk) th y5 rfl hT7 hlk2 rfl rfl hi5 ?_; intro w7 hT8 hg7)))
              have hN8 := hN7.grown hg7 (Ne.symm hne1)
              have hB7 := ((hB5.alloc hB5.size (.cells #[.int .i64 y0, .int .i64 y1, .int .u8 2, .int .i64 y3, .string y4, .int .i64 y5] 77)).grown hg6 (by simp; exact Nat.le_succ_of_le hB5.size) (fun k e => by cases e; omega)).grown hg7 (Nat.le_trans (Nat.le_succ_of_le hB5.size) (by have := hg6.size; rwa [World.size_alloc] at this)) (fun k e => by cases e; omega)
              go_roundg (errata.length - (kk + 1))
              case measure => omega
              case rel =>
                refine ⟨kk + 1, by omega, by omega, by go_num, hB7, ?_, ?_, by rw [hff.out]; exact HF.out⟩
                · rw [hth.out, hac.out]; simpa [Nat.add_assoc] using hT8
                · rw [hnn.out, hnu.out]; exact hN8
          · have hk2' : (y2 == 2) = false := by simpa using hk2
            have HF := Lib.hid (show fr' = true by rw [hfr.out, hdn, hk2']; rfl)
            clear hfr hbad hT5 hN5
            go_wp2_with (first | (at_lookup; refine wp_set_lookup rfl _ _ rfl nb kk nu y0 rfl hN6 rfl hi0 ?_; rw [hdn]) | (at_mapUpdate; refine wp_set_put rfl _ _ _ rfl nb kk nu y0 rfl hN6 hkk2 rfl rfl hi0 ?_; intro w6 hN7 hg6; have hT7 := hT6.grown hg6 hne1; have q2 := cell_after hg6 hzq 2; have q5 := cell_after hg6 hzq 5))
            have hB7 := ((hB5.alloc hB5.size (.cells #[.int .i64 y0, .int .i64 y1, .int .u8 y2, .int .i64 y3, .string y4, .int .i64 y5] 77)).grown hg6 (by simp; exact Nat.le_succ_of_le hB5.size) (fun k e => by cases e; omega))
            go_roundg (errata.length - (kk + 1))
            case measure => omega
            case rel =>
              refine ⟨kk + 1, by omega, by omega, by go_num, hB7, ?_, ?_, by rw [hff.out]; exact HF.out⟩
              · rw [hth.out, hac.out, if_neg hk2]; exact hT7.more (by omega)
              · rw [hnn.out, hnu.out]; exact hN7
        · have : kk = errata.length := by omega
          subst this
          have hf1 := A.out.2.2.2
          rw [List.take_length] at hf1
          have HN := Lib.hid (show r = ra by rw [R3.out, if_neg (by simp [hf1])])
          obtain ⟨hlt0, k0, k1, k2, k3, k4⟩ := hvc _ hB5
          have hanc2 := hanc' _ (hB2.go hB5)
          clear A hanc' hvc R3 he hkey hpk'
          go_wp2_with (go_at_call 54; refine hanc2.mono ?_; rintro e w8 ⟨rfl, hb8⟩)
          go_ret
          exact ⟨ret_int HN.out.symm, (hB2.go hB5).go hb8⟩
end Go.Proofs.YtjkmdpejcgepkaaGreatDoor
