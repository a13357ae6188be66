/- VolumeNames: the row and the card. -/
import Derived.Test.YtjkmdpejcgepkaaGreatDoorR2
import Derived.Test.YtjkmdpejcgepkaaGreatDoorH8
namespace Go.Proofs.YtjkmdpejcgepkaaGreatDoor
open Go.ChangeShapes Go.WideShapes Go.ChangeAt Go.RowKit
set_option maxRecDepth 100000 in
theorem volumenames_witness (os : Os) {H : Type} (enc : TypeId × Value → H) :
    ∃ (w : World) (tape : Tape) (i : Input), w.os = os ∧ (w.forCall tape i).Shaped Tryz.checked.prog ∧ i.vars = [] ∧ Input.okWide Tryz.checked.prog (w.forCall tape i) .any w.heap.size 9 i ∧
      (OpenSpec.ofChange Rows.volumeNamesSpec).preRow enc Tryz.checked.prog Tryz.f9 Rows.volumeNamesRow.domain false Rows.volumeNamesRow.laid (w.forCall tape i).memory i.args ∧ ({} : Assume).holds Tryz.checked.prog (lone (Frame.enter Tryz.checked.prog 9 i.args .normal) [] (w.forCall tape i)) := by
  refine ⟨World.laidAll Tryz.prog os vars5, fun _ _ => 0, ⟨#[], #[], []⟩, World.laidAll_os _ _ _,
    World.shaped_of_ZipB (by kernel_rfl) (by kernel_rfl), rfl, (Input.okWide_of_okWideB (base := 0) (by kernel_rfl)).2, ?_, ?_⟩
  · have hx : DataW.whole enc Tryz.prog ((World.laidAll Tryz.prog os vars5).forCall (fun _ _ => 0) ⟨#[], #[], []⟩).memory Tryz.f9.params.toList Rows.volumeNamesSpec.vars false [] 8 =
        some ([], [], []) := by kernel_rfl
    exact OpenSpec.preRow_of_cond 8 hx (by kernel_rfl) (fun k hk => by cases hk) (by kernel_rfl) (by rw [MakeChecks.laidMetH_plain _ _ _ (by kernel_rfl)]; exact laidMet_laidAll _ (by kernel_rfl) (by kernel_rfl))
  · simp only [Assume.holds]
    exact ⟨by simp, by simp, fun _ => Modest.zero, by simp, by simp⟩
set_option maxRecDepth 100000 in
theorem volumenames_lifted (os : Os) (started : os.Started) (H : Type) (enc : TypeId × Value → H) (F : Stop.Interp) :
    ReturnsInHanded {} Tryz.checked os 9 .any ((OpenSpec.ofChange Rows.volumeNamesSpec).preRow enc Tryz.prog Tryz.f9 Rows.volumeNamesRow.domain false Rows.volumeNamesRow.laid) (((OpenSpec.ofChange Rows.volumeNamesSpec).at F).post enc Tryz.prog Tryz.f9 false true false false) := by
  refine returnsInHanded_of_row (C := Tryz.checked) (s := OpenSpec.ofChange Rows.volumeNamesSpec) own started (by kernel_rfl) Tryz.func9 (volumenames_witness os enc) ?_
  intro W base args ds gs before _ hW _ _ hwt0 hL hsh _
  have hW' := hW
  obtain ⟨p, q, hA0, hV, rfl, hfz, hnd⟩ := hW
  have hA : DataW.TrodAll enc Tryz.prog W 0 (fun _ => true) true Tryz.f9.params.toList args.toList ds p := hA0
  rw [Tryz.params9] at hA
  obtain ⟨rfl, rfl, rfl⟩ := trodAll_none hA
  obtain ⟨rfl, rfl⟩ := trodVars_none hV
  have hG : Glob W := glob_of hL hsh
  refine (names_any W hG).mono fun e W' ⟨he, hb⟩ => ?_
  subst he
  refine ⟨_, rfl, _, _, _, [], _, [], hW', trodAll_mk1 (shut_bool Tryz.underlying4 _), trodAll_mk0 , rfl, hb.frame _, fun h => by cases h⟩
set_option maxRecDepth 100000 in
theorem volumenames_said : Rows.VolumeNamesSaid :=
  OpenClaim.holds_of_cond 9 Tryz.f9 rfl rfl rfl rfl rfl rfl rfl ⟨rfl, rfl, rfl, rfl, rfl⟩ rfl rfl rfl rfl rfl (by kernel_rfl) Tryz.func9 (by kernel_rfl)
    (of_decide_eq_true (by kernel_rfl)) (by unfold Func.isWrapper; first | (rw [if_pos (by decide +kernel)]; kernel_rfl) | (rw [if_neg (by decide +kernel)]; exact ⟨rfl, rfl⟩))
    (fun os started H enc _ F => by rw [OpenClaim.pre_eq_preRow]; exact volumenames_lifted os started H enc F)
theorem volumenames_plain (f : FuncId) (fn : Func) (hf : Tryz.pinned.checked.prog.funcNamed "palantype/palantypelaw10.VolumeNames" = some f) (hfn : Tryz.pinned.checked.prog.funcs[f]? = some fn) :
    true = Tryz.pinned.checked.prog.looks [] ∧ ∀ (j : Nat) t, fn.params[j]? = some t → Tryz.pinned.checked.prog.wantsStandIn t = false := by
  obtain rfl : f = 9 := Option.some.inj ((show Tryz.prog.funcNamed "palantype/palantypelaw10.VolumeNames" = some 9 by kernel_rfl).symm.trans hf) |>.symm
  obtain rfl : fn = Tryz.f9 := (Option.some.inj (Tryz.func9.symm.trans hfn)).symm
  refine ⟨by kernel_rfl, fun j t ht => ?_⟩
  rw [Tryz.params9] at ht
  simp at ht
theorem volumenames_card : Rows.VolumeNamesCardSaid :=
  Claim7.holds_tied_plain_at .later [] _ _ _ _ volumenames_said (fun _ h => by cases h) (by kernel_rfl) (fun _ h => by cases h) volumeNames_row_tie rfl ⟨rfl, rfl⟩ (by kernel_rfl) rfl volumenames_plain (by kernel_rfl)
#print axioms volumenames_card
end Go.Proofs.YtjkmdpejcgepkaaGreatDoor
