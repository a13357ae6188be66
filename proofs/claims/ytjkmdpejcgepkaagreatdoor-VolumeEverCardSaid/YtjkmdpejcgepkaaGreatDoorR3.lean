/- VolumeEver: the row and the card. -/
import Derived.Test.YtjkmdpejcgepkaaGreatDoorR2
import Derived.Test.YtjkmdpejcgepkaaGreatDoorEE
import Derived.Carry
namespace Go.Proofs.YtjkmdpejcgepkaaGreatDoor
open Go.ChangeShapes Go.WideShapes Go.ChangeAt Go.RowKit
set_option maxRecDepth 100000 in
theorem errs_bound {H : Type} {er : List Err} {d : DataW H} {ts : List TypeId} {ds : List (DataW H)} {n : Nat} (hd : er = [] ∨ ∃ xs sp, d = .slice xs sp ∧ xs.length = er.length) (hi : ds[n]? = some d) (ht : ts[n]? = some 25)
    (hw : (DataW.weightsEach Tryz.prog ts ds).all (· ≤ reachBytes) = true) : (er.length + 1) * 56 ≤ 140737488355328 := by
  rcases hd with rfl | ⟨xs, sp, rfl, hl⟩
  · decide
  · have hb : Tryz.prog.bytesOf 27 = 56 := by kernel_rfl
    have key : (xs.length + sp.length) * 56 ≤ reachBytes := by
      induction n generalizing ts ds with
      | zero =>
        cases ds with
        | nil => simp at hi
        | cons d0 r =>
          cases ts with
          | nil => simp at ht
          | cons t0 tr =>
            simp only [List.getElem?_cons_zero, Option.some.injEq] at hi ht
            subst hi; subst ht
            unfold DataW.weightsEach at hw
            rw [List.all_append, Bool.and_eq_true] at hw
            have h := hw.1
            unfold DataW.weights at h
            rw [Tryz.underlying25] at h
            simp only [List.all_cons, Bool.and_eq_true, decide_eq_true_eq, hb] at h
            exact h.1
      | succ n ih =>
        cases ds with
        | nil => simp at hi
        | cons d0 r =>
          cases ts with
          | nil => simp at ht
          | cons t0 tr =>
            unfold DataW.weightsEach at hw
            rw [List.all_append, Bool.and_eq_true] at hw
            exact ih (by simpa using ht) hw.2 (by simpa using hi)
    unfold reachBytes at key
    omega
set_option maxRecDepth 100000 in
theorem ever_witness (os : Os) {H : Type} (enc : TypeId × Value → H) :
    ∃ (w : World) (tape : Tape) (i : Input), w.os = os ∧ (w.forCall tape i).Shaped Tryz.checked.prog ∧ i.vars = [] ∧ Input.okWide Tryz.checked.prog (w.forCall tape i) .any w.heap.size 3 i ∧
      (OpenSpec.ofChange Rows.volumeEverSpec).preRow enc Tryz.checked.prog Tryz.f3 Rows.volumeEverRow.domain false Rows.volumeEverRow.laid (w.forCall tape i).memory i.args ∧ ({} : Assume).holds Tryz.checked.prog (lone (Frame.enter Tryz.checked.prog 3 i.args .normal) [] (w.forCall tape i)) := by
  refine ⟨World.laidAll Tryz.prog os vars5, fun _ _ => 0, ⟨#[], #[.agg #[.int .i64 0, .int .i64 0, .int .i64 0, .int .i64 0, .slice none 0 0], .slice none 0 0, .agg #[.int .i64 0, .int .i64 0, .int .u8 0, .int .i64 0, .string ⟨#[]⟩, .int .i64 0], .int .u16 0], []⟩, World.laidAll_os _ _ _,
    World.shaped_of_ZipB (by kernel_rfl) (by kernel_rfl), rfl, (Input.okWide_of_okWideB (base := 0) (by kernel_rfl)).2, ?_, ?_⟩
  · have hx : DataW.whole enc Tryz.prog ((World.laidAll Tryz.prog os vars5).forCall (fun _ _ => 0) ⟨#[], #[.agg #[.int .i64 0, .int .i64 0, .int .i64 0, .int .i64 0, .slice none 0 0], .slice none 0 0, .agg #[.int .i64 0, .int .i64 0, .int .u8 0, .int .i64 0, .string ⟨#[]⟩, .int .i64 0], .int .u16 0], []⟩).memory Tryz.f3.params.toList Rows.volumeEverSpec.vars false [.agg #[.int .i64 0, .int .i64 0, .int .i64 0, .int .i64 0, .slice none 0 0], .slice none 0 0, .agg #[.int .i64 0, .int .i64 0, .int .u8 0, .int .i64 0, .string ⟨#[]⟩, .int .i64 0], .int .u16 0] 8 =
        some ([.agg [.lit (.int .i64 0), .lit (.int .i64 0), .lit (.int .i64 0), .lit (.int .i64 0), .nil], .nil, .agg [.lit (.int .i64 0), .lit (.int .i64 0), .lit (.int .u8 0), .lit (.int .i64 0), .lit (.string []), .lit (.int .i64 0)], .lit (.int .u16 0)], [], []) := by kernel_rfl
    exact OpenSpec.preRow_of_cond 8 hx (by kernel_rfl) (fun k hk => by cases hk) (by kernel_rfl) (by rw [MakeChecks.laidMetH_plain _ _ _ (by kernel_rfl)]; exact laidMet_laidAll _ (by kernel_rfl) (by kernel_rfl))
  · simp only [Assume.holds]
    exact ⟨by simp, by simp, fun _ => Modest.zero, by simp, by simp⟩
theorem keep_arg {H : Type} {enc : TypeId × Value → H} {W W' : World} {t : TypeId} {v : Value} {d : DataW H} {ps : List MemPlace} (hr : Tryz.prog.readableRec t = true) (ht : t < Tryz.prog.types.size)
    (h : DataW.Trod enc Tryz.prog W 0 (fun _ => true) true t v d ps) (hb : Below W.heap.size W W') (hlt : ∀ x ∈ ps, x.block < W.heap.size) :
    DataW.Trod enc Tryz.prog W' 0 (fun b => decide (b < W.heap.size)) true t v d ps := Below.trod laidOutP hr ht h hb hlt
set_option maxRecDepth 100000 in
theorem ever_lifted (os : Os) (started : os.Started) (H : Type) (enc : TypeId × Value → H) (F : Stop.Interp) :
    ReturnsInHanded {} Tryz.checked os 3 .any ((OpenSpec.ofChange Rows.volumeEverSpec).preRow enc Tryz.prog Tryz.f3 Rows.volumeEverRow.domain false Rows.volumeEverRow.laid) (((OpenSpec.ofChange Rows.volumeEverSpec).at F).post enc Tryz.prog Tryz.f3 false true false false) := by
  refine returnsInHanded_of_row (C := Tryz.checked) (s := OpenSpec.ofChange Rows.volumeEverSpec) own started (by kernel_rfl) Tryz.func3 (ever_witness os enc) ?_
  intro W base args ds gs before hval0 hW _ _ hwt0 hL hsh _
  have hval : ∀ (j : Nat) t v, Tryz.f3.params[j]? = some t → args[j]? = some v → Value.okWide Tryz.prog W .any base t v := hval0
  have hwt : (DataW.weightsEach Tryz.prog (Tryz.f3.params.toList ++ (OpenSpec.ofChange Rows.volumeEverSpec).bare.plain.varTypes Tryz.prog) (ds ++ gs)).all (· ≤ reachBytes) = true := hwt0
  have hW' := hW
  obtain ⟨p, q, hA0, hV, rfl, hfz, hnd⟩ := hW
  have hA : DataW.TrodAll enc Tryz.prog W 0 (fun _ => true) true Tryz.f3.params.toList args.toList ds p := hA0
  rw [Tryz.params3] at hA hval hwt
  have hlt : ∀ x ∈ p ++ q, x.block < W.heap.size := fun x hx => hW'.lt x hx
  obtain ⟨v0, v1, v2, v3, d0, d1, d2, d3, p0, p1, p2, p3, rfl, rfl, rfl, h0, h1, h2, h3⟩ := trodAll_four hA
  obtain ⟨rfl, rfl⟩ := trodVars_none hV
  obtain ⟨x, hx⟩ := open_vol (hval 0 24 v0 rfl rfl) h0
  obtain ⟨er, her, hd1⟩ := open_errata (hval 1 25 v1 rfl rfl) h1
  obtain ⟨y, rfl⟩ := open_erratum (hval 2 27 v2 rfl rfl) h2
  obtain ⟨d, rfl, rfl, rfl, wd⟩ := open_int Tryz.underlying28 (hval 3 28 v3 rfl rfl) h3
  have hG : Glob W := glob_of hL hsh
  have hd : 0 ≤ d ∧ d ≤ 65535 := by simp [Lit.wf] at wd; exact wd
  have hl := errs_bound hd1 (n := 1) (ds := [d0, d1, d2, .lit (.int .u16 d)] ++ []) rfl rfl hwt
  refine (ever_any v0 v1 x er y d W hx her hl hd hG).mono fun e W' ⟨he, hb⟩ => ?_
  subst he
  refine ⟨_, rfl, _, _, _, [], _, [], hW', trodAll_mk1 (shut_bool Tryz.underlying4 _), trodAll_mk4 (keep_arg (by kernel_rfl) (of_decide_eq_true (by kernel_rfl)) h0 hb ?_) (keep_arg (by kernel_rfl) (of_decide_eq_true (by kernel_rfl)) h1 hb ?_) (keep_arg (by kernel_rfl) (of_decide_eq_true (by kernel_rfl)) h2 hb ?_) (shut_int Tryz.underlying28 wd), rfl, hb.frame _, fun h => by cases h⟩
  · exact fun x hx => hlt x (by simp [hx])
  · exact fun x hx => hlt x (by simp [hx])
  · exact fun x hx => hlt x (by simp [hx])
set_option maxRecDepth 100000 in
theorem ever_said : Rows.VolumeEverSaid :=
  OpenClaim.holds_of_cond 3 Tryz.f3 rfl rfl rfl rfl rfl rfl rfl ⟨rfl, rfl, rfl, rfl, rfl⟩ rfl rfl rfl rfl rfl (by kernel_rfl) Tryz.func3 (by kernel_rfl)
    (of_decide_eq_true (by kernel_rfl)) (by unfold Func.isWrapper; first | (rw [if_pos (by decide +kernel)]; kernel_rfl) | (rw [if_neg (by decide +kernel)]; exact ⟨rfl, rfl⟩))
    (fun os started H enc _ F => by rw [OpenClaim.pre_eq_preRow]; exact ever_lifted os started H enc F)
theorem ever_plain (f : FuncId) (fn : Func) (hf : Tryz.pinned.checked.prog.funcNamed "palantype/palantypelaw10.VolumeEver" = some f) (hfn : Tryz.pinned.checked.prog.funcs[f]? = some fn) :
    true = Tryz.pinned.checked.prog.looks [] ∧ ∀ (j : Nat) t, fn.params[j]? = some t → Tryz.pinned.checked.prog.wantsStandIn t = false := by
  obtain rfl : f = 3 := Option.some.inj ((show Tryz.prog.funcNamed "palantype/palantypelaw10.VolumeEver" = some 3 by kernel_rfl).symm.trans hf) |>.symm
  obtain rfl : fn = Tryz.f3 := (Option.some.inj (Tryz.func3.symm.trans hfn)).symm
  refine ⟨by kernel_rfl, fun j t ht => ?_⟩
  rw [Tryz.params3] at ht
  have hm : t ∈ [24, 25, 27, 28] := by simpa using Array.mem_of_getElem? ht
  have hall : ([24, 25, 27, 28].all fun u => !Tryz.prog.wantsStandIn u) = true := by kernel_rfl
  have h1 := List.all_eq_true.1 hall t hm
  exact (show Tryz.prog.wantsStandIn t = false by simpa using h1)
theorem ever_card : Rows.VolumeEverCardSaid :=
  Claim7.holds_tied_plain_at .later [] _ _ _ _ ever_said (fun _ h => by cases h) (by kernel_rfl) (fun _ h => by cases h) volumeEver_row_tie rfl ⟨rfl, rfl⟩ (by kernel_rfl) rfl ever_plain (by kernel_rfl)
#print axioms ever_card
end Go.Proofs.YtjkmdpejcgepkaaGreatDoor
