/- anchored: whether errata find their anchors when they are issued. -/
import Derived.Test.YtjkmdpejcgepkaaGreatDoorC8
namespace Go.Proofs.YtjkmdpejcgepkaaGreatDoor
open Go.RowKit
attribute [local go_sem] Oper.semAt_some
theorem issued_any (A : Option Addr) (n c : Nat) (to : Int) (w : World) : Calls Tryz.prog 55 #[.slice A n c, .int .i64 to] w fun e w' =>
    e = .returned (.func (.func 77) #[] #[.pointer (some ⟨w.heap.size, 0, none⟩), .pointer (some ⟨w.heap.size + 1, 0, none⟩)]) ∧ (w.alloc (.cells #[.slice A n c] 39)).alloc (.cells #[.int .i64 to] 3) = w' := by
  go_enter Tryz.func55, Tryz.ntmps55
  go_wp2
  go_ret
  exact ⟨rfl, rfl⟩
section
variable {F : Fence} {nF : Nat} {w : World} {ops : Array Oper} {rest : List Oper} {o : Oper} {a : Act} {Q : Exit → Act → World → Prop}
theorem wpIn_set_lookup (hg : o.guard = none) (m x : Operand) (hop : o.op = Op.lookup 124 m x false) (b n : Nat) (acc : List Int) (key : Int)
    (hm : a.eval m = .map (some b)) (hown : OwnSet w b n acc) (hx : a.eval x = .int .i64 key) (hk : inI64 key)
    (hK : wpListIn F nF Tryz.prog ops Q rest (a.put o.dst (.bool (decide (key ∈ acc)))) w) : wpListIn F nF Tryz.prog ops Q (o :: rest) a w := by
  refine wpListIn_plain hg fun K' hK' => ?_
  unfold Oper.wpIn
  refine ⟨by simp [Oper.about, hop], ?_⟩
  rw [Oper.semAt_plain F _ _ (by rw [hop]; intro c hc'; cases hc')]
  simp [execOp, hop, hm, hx, run_set_lookup hown key hk, Result.andThen]
  exact hK' _ _ hK
theorem wpIn_set_put (hg : o.guard = none) (m x v : Operand) (hop : o.op = Op.mapUpdate 124 m x v) (b n : Nat) (acc : List Int) (key : Int)
    (hm : a.eval m = .map (some b)) (hown : OwnSet w b n acc) (hn : n < maxLen) (hx : a.eval x = .int .i64 key) (hv : a.eval v = .bool true) (hk : inI64 key)
    (hK : ∀ w', OwnSet w' b (n + 1) (key :: acc) → w.grownBy w' (some b) → wpListIn F nF Tryz.prog ops Q rest (a.put o.dst undef) w') : wpListIn F nF Tryz.prog ops Q (o :: rest) a w := by
  obtain ⟨D, h, h1, h2⟩ := hown
  refine wpListIn_mapUpdate_own w hg m x v 124 hop 3 4 (Maps.int_keyed Tryz.underlying3) Tryz.underlying124 _ b n D hm h hn _ _ (i64Lit key) hx hv (Maps.keyOf_int_mk Tryz.underlying3 hk) _ [] (plainElem_bool Tryz.underlying4 true) ?_
  intro w1 hown1 hg1
  refine hK w1 ⟨_, hown1, h1.put _ _, fun y hy => ?_⟩ hg1
  by_cases e : y = key
  · subst e
    rw [Maps.atKey_put_same (k := i64Lit y) h1 ((Maps.int_keyed Tryz.underlying3).key (Maps.keyOf_int_mk Tryz.underlying3 hk))]
    simp
  · rw [Maps.atKey_put_other (by unfold i64Lit; simpa using e), h2 y hy]
    simp [e]
end
theorem OwnSet.isMap {w : World} {b n : Nat} {acc : List Int} (h : OwnSet w b n acc) : ∀ cs t fr, w.heap[b]? ≠ some (.cells cs t fr) := by
  obtain ⟨D, h, _⟩ := h
  obtain ⟨es, ck, hh, _⟩ := h
  intro cs t fr e
  rw [hh] at e; cases e
theorem OwnSet.more {w : World} {b n m : Nat} {acc : List Int} (h : OwnSet w b n acc) (hm : n ≤ m) : OwnSet w b m acc := by
  obtain ⟨D, h, h1, h2⟩ := h
  exact ⟨D, h.mono hm, h1, h2⟩
theorem OwnSet.keepT {w w' : World} {b n : Nat} {acc : List Int} (h : OwnSet w b n acc) (hg : w.grownBy w' (some b)) : KeepT w w' :=
  KeepT.grown hg (fun k e cs t fr hk => by cases e; exact absurd hk (h.isMap cs t fr))
theorem ownSet_own {β : Type} (B b : Nat) (hb : b < B) (m : β → Nat) (f : β → List Int) : OwnFrom B (fun s W => OwnSet W b (m s) (f s)) := fun s X Y row hs hg hr =>
  hs.grown hg (fun e => by have := (hr b e.symm).1; omega)
/-- the anchors that are there after some errata -/
def accOf (acc : List Int) (l : List Err) : List Int := l.foldl (fun acc x => if x.kind = 2 then x.new :: acc else acc) acc
/-- each erratum finds its anchor -/
def anch : List Int → List Err → Bool
  | _, [] => true
  | acc, x :: l => decide (x.anchor ∈ acc) && anch (if x.kind = 2 then x.new :: acc else acc) l
theorem accOf_snoc (acc : List Int) (l : List Err) (x : Err) : accOf acc (l ++ [x]) = if x.kind = 2 then x.new :: accOf acc l else accOf acc l := by simp [accOf]
theorem anch_snoc (acc : List Int) (l : List Err) (x : Err) : anch acc (l ++ [x]) = (anch acc l && decide (x.anchor ∈ accOf acc l)) := by
  induction l generalizing acc with
  | nil => simp only [List.nil_append, anch, accOf, List.foldl_nil, Bool.and_true, Bool.true_and]; rfl
  | cons y l ih =>
    rw [List.cons_append, anch, anch, ih, Bool.and_assoc]
    rfl
theorem anch_append (acc : List Int) (l m : List Err) (h : anch acc l = false) : anch acc (l ++ m) = false := by
  induction l generalizing acc with
  | nil => simp [anch] at h
  | cons y l ih =>
    rw [anch, Bool.and_eq_false_iff] at h
    rw [List.cons_append, anch, Bool.and_eq_false_iff]
    exact h.imp id (ih _)
theorem anch_prefix {acc : List Int} {l m : List Err} (h : anch acc l = false) (hp : l <+: m) : anch acc m = false := by
  obtain ⟨k, rfl⟩ := hp
  exact anch_append acc l k h
/-- the errata themselves -/
def und {C : Err → Prop} (l : List {x : Err // C x}) : List Err := l.map (·.1)
theorem und_nil {C : Err → Prop} : und ([] : List {x : Err // C x}) = [] := rfl
theorem und_snoc {C : Err → Prop} (l : List {x : Err // C x}) (x : {x : Err // C x}) : und (l ++ [x]) = und l ++ [x.1] := by simp [und]
def Err.keyed (x : Err) : Prop := inI64 x.anchor ∧ inI64 x.new
def anchored (x : Vol) (errata : List Err) : Int := if anch (ancs x.paras).reverse (issuedL errata 99999) then 0 else 7
set_option maxHeartbeats 4000000 in
theorem anchored_any (v ev : Value) (x : Vol) (errata : List Err) (w : World) (hv : IsVol w v x) (hs : x.small) (he : RdE w ev errata) (hl : errata.length ≤ 1000000) (hk : ∀ y ∈ errata, y.keyed) (hkp : ∀ p ∈ x.paras, inI64 p.anchor) :
    Calls Tryz.prog 54 #[v, ev] w fun e w' => e = .returned (.int .i64 (anchored x errata)) ∧ Below w.heap.size w w' := by
  have hmm := @run_makeMap Tryz.prog
  obtain ⟨sv, rfl, A, c, rfl, hc, hm, hr⟩ := id hv
  obtain ⟨A0, c0, rfl, -⟩ := id he
  have hpl : x.paras.length ≤ 100000 := by
    have := take_paras_le x.parts x.parts.length hs.1 (fun p hp => (hs.2 p hp).1)
    rwa [List.take_length] at this
  have hpar : ∀ W, Below w.heap.size w W → Calls Tryz.prog 47 #[x.val (.slice A x.parts.length c)] W (ParasPost W x.paras) := fun W hW => paragraphs_any _ x W (hv.below hW) hs
  have R : Hid (anchored x errata = if anch (ancs x.paras).reverse (issuedL errata 99999) then 0 else 7) := Lib.hid rfl
  clear hv hs hr
  obtain ⟨n0, n1, n2, n3, ps⟩ := x
  dsimp only [Vol.val] at hpar R ⊢
  generalize anchored _ _ = r at R ⊢
  generalize (Vol.mk n0 n1 n2 n3 ps).paras = l at R hpar hpl hkp
  refine callsIn_wide.1 (callsIn_of_wp_marks (n := 9) Tryz.func54 rfl trivial ?_ rfl)
  simp only [Tryz.ntmps54, List.size_toArray, List.length_cons, List.length_nil, Nat.reduceAdd, Nat.reduceSub, Array.replicate_succ, Array.replicate_zero, List.push_toArray, List.append_toArray, List.nil_append, List.cons_append]
  gi_wp2
  obtain ⟨W4, hW4⟩ : ∃ W4, (((w.alloc (.cells #[.int .i64 n0, .int .i64 n1, .int .i64 n2, .int .i64 n3, .slice A ps.length c] 37)).alloc (.cells #[.int .i64 0] 32)).alloc (.map #[] 0)).alloc (.cells #[.map (some (w.heap.size + 1 + 1))] 124) = W4 := ⟨_, rfl⟩
  have bR : Boxed W4 (w.heap.size + 1) 32 (.int .i64 0) := by
    have h := ((Boxed.new (w.alloc (.cells #[.int .i64 n0, .int .i64 n1, .int .i64 n2, .int .i64 n3, .slice A ps.length c] 37)) 32 (.int .i64 0)).alloc (.map #[] 0)).alloc (.cells #[.map (some (w.heap.size + 1 + 1))] 124)
    rw [hW4, World.size_alloc] at h; exact h
  have bM : Boxed W4 (w.heap.size + 1 + 1 + 1) 124 (.map (some (w.heap.size + 1 + 1))) := by
    have h := Boxed.new (((w.alloc (.cells #[.int .i64 n0, .int .i64 n1, .int .i64 n2, .int .i64 n3, .slice A ps.length c] 37)).alloc (.cells #[.int .i64 0] 32)).alloc (.map #[] 0)) 124 (.map (some (w.heap.size + 1 + 1)))
    rw [hW4] at h; simpa using h
  have hS0 : OwnSet W4 (w.heap.size + 1 + 1) 0 [] := by
    have h := (OwnSet.made ((w.alloc (.cells #[.int .i64 n0, .int .i64 n1, .int .i64 n2, .int .i64 n3, .slice A ps.length c] 37)).alloc (.cells #[.int .i64 0] 32))).alloc (.cells #[.map (some (w.heap.size + 1 + 1))] 124)
    rw [World.size_alloc, World.size_alloc, hW4] at h; exact h
  have hB4 : Below w.heap.size w W4 := by
    rw [← hW4]
    exact ((((Below.refl _ w).alloc (Nat.le_refl _) _).alloc (by simp) _).alloc (by simp; omega) _).alloc (by simp; omega) _
  have hz4 : W4.heap.size = w.heap.size + 4 := by rw [← hW4]; simp
  rw [hW4]
  clear hW4
  refine ⟨trivial, ?_⟩
  refine (callsIn_wide.2 (hpar W4 hB4)).mono ?_
  rintro e w1 ⟨pv, rfl, hO, hB1⟩
  obtain ⟨A1, c1, rfl, hc1, -, hrow⟩ := id hO.rd
  have bR1 := bR.kept (grownBy_of_below hB1 none) (by simp)
  have bM1 := bM.kept (grownBy_of_below hB1 none) (by simp)
  have hS1 := hS0.below hB1
  have hz1 := hB1.size
  have hB01 := hB4.go hB1
  clear hpar bR bM hS0 hB4
  gi_wp2
  have hal : (ancs l).length = l.length := by simp [ancs]
  have hz5 : w.heap.size + 4 ≤ w1.heap.size := by omega
  rw [hz4] at hO
  clear hz1 hz4 hB1 hrow
  gi_loopw [13] (fun s13 wr => ∃ kk : Nat, kk ≤ l.length ∧ s13 = .int .i64 kk ∧ Aside (w1.grownBy wr (some (w.heap.size + 1 + 1)) ∧ OwnSet wr (w.heap.size + 1 + 1) kk ((ancs l).take kk).reverse)) (fun s13 _ => l.length - (intOf s13).toNat)
  case atStart => exact ⟨0, Nat.zero_le _, rfl, World.grownBy.refl _ _, hS1⟩
  case round =>
    obtain ⟨kk, hkk, rfl, A⟩ := hrel
    have hg1 := A.out.1
    have hS := A.out.2
    have bM := bM1.kept hg1 (by simp)
    have cM := bM.cell
    have lM := bM.lt
    by_cases hlt : kk < l.length
    · obtain ⟨A3, c3, e3, _, _, hr3⟩ := (hO.grown hg1 (by
        rcases hob : (Value.slice A1 l.length c1).ownBlock with _ | g
        · exact .inl rfl
        · right; intro e; injection e with e; have := (hO.lt g hob).1; omega)).rd
      obtain ⟨b, off, rfl, hbl, hrow⟩ := hr3 (by omega)
      simp only [Value.slice.injEq] at e3
      obtain ⟨rfl, -, rfl⟩ := e3
      clear hr3
      have hin := hkp _ (List.getElem_mem hlt)
      have hc' := hrow kk hlt
      have hga : Hid ((ancs l)[kk]'(by omega) = l[kk].anchor) := Lib.hid (by simp [ancs])
      have hrev : Hid (((ancs l).take (kk + 1)).reverse = l[kk].anchor :: ((ancs l).take kk).reverse) := Lib.hid (by
          rw [List.take_succ_eq_append_getElem (by omega), List.reverse_append, hga.out]; rfl)
      clear hga
      generalize l[kk] = y at hc' hin hrev
      obtain ⟨ya, yt⟩ := y
      dsimp only at hin hrev
      have c0 := hc' 0 _ rfl; have c1 := hc' 1 _ rfl
      clear hc' hrow
      have ek : EP.k = 2 := rfl
      simp only [Nat.add_zero, ek] at c0 c1
      clear ek
      have hkk2 : kk < maxLen := by unfold maxLen; omega
      have hS' := hS.alloc (.cells #[.int .i64 ya, .string yt] 67)
      clear A hS
      generalize ((ancs l).take kk).reverse = acc at hS' hrev
      gi_wp2_with (gi_at_mapUpdate; refine wpIn_set_put rfl _ _ _ rfl (w.heap.size + 1 + 1) kk acc ya rfl hS' hkk2 rfl rfl hin ?_; intro w3 hS3 hg3)
      go_roundw
      case rel =>
        refine ⟨kk + 1, by omega, by go_num, (hg1.trans (World.grownBy_alloc _ _ _)).trans hg3, ?_⟩
        rw [hrev.out]; exact hS3
      case measure => simp [intOf]; omega
    · have : kk = l.length := by omega
      subst this
      have bR := bR1.kept hg1 (by simp)
      have hB := hB01.grown hg1 (by omega) (fun k e => by cases e; omega)
      have hz6 : w.heap.size + 4 ≤ wr.heap.size := Nat.le_trans hz5 hg1.size
      rw [List.take_of_length_le (by omega)] at hS
      clear A hS1 hO hB01 bR1 bM1 hg1
      gi_wp2
      refine ⟨trivial, ?_⟩
      refine (callsIn_wide.2 (issued_any A0 errata.length c0 99999 wr)).mono ?_
      rintro e w2 ⟨rfl, h2⟩
      have hE2 : w2.heap[wr.heap.size]? = some (.cells #[.slice A0 errata.length c0] 39 (0, 0)) := by
        rw [← h2]; exact (Boxed.new wr 39 (.slice A0 errata.length c0)).alloc _
      have hT2 : w2.heap[wr.heap.size + 1]? = some (.cells #[.int .i64 99999] 3 (0, 0)) := by
        rw [← h2]; have h := Boxed.new (wr.alloc (.cells #[.slice A0 errata.length c0] 39)) 3 (.int .i64 99999); rw [World.size_alloc] at h; exact h
      have hBr : Below wr.heap.size wr w2 := by rw [← h2]; exact ((Below.refl _ _).alloc (Nat.le_refl _) _).alloc (by simp) _
      have hB2 := hB.go hBr
      have bR2 := bR.kept (grownBy_of_below hBr none) (by simp)
      have bM2 := bM.kept (grownBy_of_below hBr none) (by simp)
      have hS2 := hS.below hBr
      have hz2 := hBr.size
      clear h2 hB bR bM hS hBr cM lM hlt
      gi_wp2
      refine wpIn_rangeFunc_ownH (F := Fence.wide) (n := 9) rfl (by decide) (gf := 77) (lb := #[.pointer (some ⟨wr.heap.size, 0, none⟩), .pointer (some ⟨wr.heap.size + 1, 0, none⟩)]) rfl trivial (enters_of Tryz.func77 (by kernel_rfl) rfl)
        (issued1_stops 8 w2 wr.heap.size (wr.heap.size + 1) _ errata 99999 hE2 hT2 (he.below hB2) hl Err.keyed hk) KeepT.trans (fun W ll o o' _ hll hc _ => KeepT.putObj W ll o o' hll hc) (Below.refl _ _) (fun _ => rfl)
        (fun pre W => ((OwnSet W (w.heap.size + 1 + 1) (l.length + pre.length) (accOf (ancs l).reverse (und pre)) ∧ Boxed W (w.heap.size + 1) 32 (.int .i64 0)) ∧ Boxed W (w.heap.size + 1 + 1 + 1) 124 (.map (some (w.heap.size + 1 + 1)))) ∧ (anch (ancs l).reverse (und pre) = true ∧ Below w.heap.size w W))
        (fun c pre W => ((c = .ret ∧ anch (ancs l).reverse (und pre) = false) ∧ Boxed W (w.heap.size + 1) 32 (.int .i64 7)) ∧ Below w.heap.size w W)
        (OwnFrom.and (OwnFrom.and (OwnFrom.and (ownSet_own _ _ (by omega) _ _) (Go.Own.from (boxed_own _ _ (fun _ => .int .i64 0)) _)) (Go.Own.from (boxed_own _ _ (fun _ => .map (some (w.heap.size + 1 + 1)))) _)) (OwnFrom.and (ownFrom_pure _ _) (ownFrom_below (Nat.le_refl _) (by omega))))
        (fun c => OwnFrom.and (OwnFrom.and (ownFrom_pure _ _) (Go.Own.from (boxed_own _ _ (fun _ => .int .i64 7)) _)) (ownFrom_below (Nat.le_refl _) (by omega)))
        ⟨⟨⟨by simpa [accOf, und] using hS2, bR2⟩, bM2⟩, by simp [anch, und], hB2⟩
        (fun x a' W => ∃ Bx, w.heap.size + 1 < Bx ∧ W.heap[Bx]? = some (.cells x.1.enc.toArray 77 (0, 0)) ∧ a' = { tmps := #[.agg #[.int .i64 n0, .int .i64 n1, .int .i64 n2, .int .i64 n3, .slice A ps.length c], .slice A0 errata.length c0, .pointer (some ⟨w.heap.size, 0, none⟩), undef, .pointer (some ⟨w.heap.size + 1, 0, none⟩), .pointer (some ⟨w.heap.size + 1 + 1 + 1, 0, none⟩), undef, u7, .pointer (some ⟨Bx, 0, none⟩), .map (some (w.heap.size + 1 + 1)), .agg #[.int .i64 n0, .int .i64 n1, .int .i64 n2, .int .i64 n3, .slice A ps.length c], .slice A1 l.length c1, .int .i64 l.length, .int .i64 l.length, .bool false, u15, u16, u17, u18, u19, u20, .slice A0 errata.length c0, .func (.func 77) #[] #[.pointer (some ⟨wr.heap.size, 0, none⟩), .pointer (some ⟨wr.heap.size + 1, 0, none⟩)], x.1.val, undef, undef, undef, undef, undef, undef, undef, undef, undef, undef, undef], defers := [] })
        (fun x a' _ X Y row hs hg hr => by
          obtain ⟨Bx, h1, h2, h3⟩ := hs
          refine ⟨Bx, h1, ?_, h3⟩
          rw [hg.block Bx (Array.getElem?_eq_some_iff.1 h2).1 (fun e' => by
            obtain ⟨_, o, ho, hc⟩ := hr Bx e'.symm
            rw [h2] at ho; cases ho; cases hc)]
          exact h2)
        ?assign ?body ?done ?stop
      case assign =>
        rintro l' pre ⟨⟨y0, y1, y2, y3, y4, y5⟩, hy⟩ W K ⟨⟨⟨hs, bR3⟩, bM3⟩, ha, hB3⟩ hK
        dsimp only [Err.val]
        gi_wp2
        exact hK _ _ ((KeepsOthers.alloc _ _).from _) (KeepT.below ((Below.refl _ W).alloc (Nat.le_refl _) _)) ⟨⟨⟨hs.alloc _, bR3.alloc _⟩, bM3.alloc _⟩, ha, hB3.alloc hB3.size _⟩ ⟨W.heap.size, bR3.lt, World.alloc_heap_new W _, rfl⟩
      case body =>
        rintro l' pre ⟨⟨y0, y1, y2, y3, y4, y5⟩, hy⟩ a' W hl' ⟨r0, hr0⟩ ⟨⟨⟨hs, bR3⟩, bM3⟩, ha, hB3⟩ ⟨Bx, hBx, hX, rfl⟩ hlt
        have hX3 : W.cell? ⟨Bx, 3, none⟩ = some (.int .i64 y3) := by simp [World.cell?, hX, Err.enc]
        have hX2 : W.cell? ⟨Bx, 2, none⟩ = some (.int .u8 y2) := by simp [World.cell?, hX, Err.enc]
        have hX5 : W.cell? ⟨Bx, 5, none⟩ = some (.int .i64 y5) := by simp [World.cell?, hX, Err.enc]
        have cM := bM3.cell
        have cR := bR3.cell
        have fR := bR3.frozen
        have hy3 : inI64 y3 := hy.1
        have hy5 : inI64 y5 := hy.2
        have hsn := Lib.hid (anch_snoc (ancs l).reverse (und pre) ⟨y0, y1, y2, y3, y4, y5⟩)
        have hac := Lib.hid (accOf_snoc (ancs l).reverse (und pre) ⟨y0, y1, y2, y3, y4, y5⟩)
        have hmap := Lib.hid (und_snoc pre ⟨⟨y0, y1, y2, y3, y4, y5⟩, hy⟩)
        have hlen : Hid (l.length + pre.length + 1 = l.length + (pre ++ [(⟨⟨y0, y1, y2, y3, y4, y5⟩, hy⟩ : {x : Err // x.keyed})]).length) := Lib.hid (by simp; omega)
        rw [ha] at hsn
        dsimp only [Err.val] at hsn hac ⊢
        have hpl2 : l.length + pre.length < maxLen := by unfold maxLen; omega
        have hW : W.heap.size = W.heap.size := rfl
        clear hX he hkp hk hS2 bR2 bM2 hE2 hT2 hB2 R
        by_cases hin : y3 ∈ accOf (ancs l).reverse (und pre)
        · have hd : decide (y3 ∈ accOf (ancs l).reverse (und pre)) = true := by simpa using hin
          by_cases hk2 : y2 = 2
          · subst hk2
            gi_wp2_with (first | (gi_at_lookup; refine wpIn_set_lookup rfl _ _ rfl (w.heap.size + 1 + 1) _ _ y3 rfl hs rfl hy3 ?_; rw [hd]) | (gi_at_mapUpdate; refine wpIn_set_put rfl _ _ _ rfl (w.heap.size + 1 + 1) _ _ y5 rfl hs hpl2 rfl rfl hy5 ?_; intro w3 hS3 hg3))
            refine ⟨KeepsFrom.of_grownBy hg3 (fun j e => by cases e; omega), hs.keepT hg3, ⟨⟨?_, bR3.kept hg3 (by simp)⟩, bM3.kept hg3 (by simp)⟩, ?_, hB3.grown hg3 hB3.size (fun k e => by cases e; omega)⟩
            · rw [hmap.out, hac.out, ← hlen.out]; exact hS3
            · rw [hmap.out, hsn.out, decide_eq_true hin]; rfl
          · have hk2' : (y2 == 2) = false := by simpa using hk2
            gi_wp2_with (first | (gi_at_lookup; refine wpIn_set_lookup rfl _ _ rfl (w.heap.size + 1 + 1) _ _ y3 rfl hs rfl hy3 ?_; rw [hd]))
            refine ⟨KeepsFrom.refl _ _, KeepT.refl _, ⟨⟨?_, bR3⟩, bM3⟩, ?_, hB3⟩
            · rw [hmap.out, hac.out, if_neg hk2, ← hlen.out]; exact hs.more (by omega)
            · rw [hmap.out, hsn.out, decide_eq_true hin]; rfl
        · have hd : decide (y3 ∈ accOf (ancs l).reverse (und pre)) = false := by simpa using hin
          gi_wp2_with (first | (gi_at_lookup; refine wpIn_set_lookup rfl _ _ rfl (w.heap.size + 1 + 1) _ _ y3 rfl hs rfl hy3 ?_; rw [hd]))
          refine ⟨(KeepsOthers.setCell _ _ _).from _, ⟨⟨rfl, ?_⟩, bR3.set _⟩, hB3.setCell (p := ⟨w.heap.size + 1, 0, none⟩) (by simp) _⟩
          rw [hmap.out, hsn.out, decide_eq_false hin]; rfl
      case done =>
        rintro D xs W hD hSx ⟨⟨⟨hs, bR3⟩, bM3⟩, ha, hB3⟩ hK
        have HN : Hid (r = 0) := Lib.hid (by rw [R.out, if_pos (by rw [← hSx]; exact ha)])
        have cR := bR3.cell
        have fR := bR3.frozen
        clear he hkp hk hS2 bR2 bM2 hE2 hT2 hB2 R
        gi_wp2
        have hK' := (KeepsOthers.setCell W ⟨w.heap.size + 1, 0, none⟩ (.int .i64 0)).same D _ hK rfl
        refine ⟨by simp, .inl ⟨_, _, rfl, run_takeDeferred hK', ?_⟩⟩
        have hc5 := cell_kept (bR3.set (.int .i64 0)).cell (grownBy_putObj' _ D (.deferred none)) (fun r e => by cases e; exact ⟨_, hK', rfl⟩)
        refine ⟨.int .i64 0, ?_, ret_int HN.out.symm, (hB3.setCell (p := ⟨w.heap.size + 1, 0, none⟩) (by simp) _).trans (belowK_b (w := w2) (by omega) _ D _ _ (by omega) hK' rfl rfl)⟩
        simp [results, Tryz.f54, go_sem, hc5]
      case stop =>
        rintro D c pre W hD hpre ⟨⟨⟨rfl, hf⟩, bR3⟩, hB3⟩ hK
        have HN : Hid (r = 7) := Lib.hid (by rw [R.out, if_neg (by rw [anch_prefix hf hpre]; simp)])
        clear he hkp hk hS2 bR2 bM2 hE2 hT2 hB2 R
        gi_wp2
        refine ⟨by simp, .inl ⟨_, _, rfl, run_takeDeferred hK, ?_⟩⟩
        have hc5 := cell_kept bR3.cell (grownBy_putObj' _ D (.deferred none)) (fun r e => by cases e; exact ⟨_, hK, rfl⟩)
        refine ⟨.int .i64 7, ?_, ret_int HN.out.symm, hB3.trans (belowK_b (w := w2) (by omega) _ D _ _ (by omega) hK rfl rfl)⟩
        simp [results, Tryz.f54, go_sem, hc5]
end Go.Proofs.YtjkmdpejcgepkaaGreatDoor
