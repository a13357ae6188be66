/- VolumeBytes: the row and the card. -/
import Derived.Test.YtjkmdpejcgepkaaGreatDoorR2
import Derived.Test.YtjkmdpejcgepkaaGreatDoorH6
import Derived.ChangeMaps5
namespace Go.Proofs.YtjkmdpejcgepkaaGreatDoor
open Go.ChangeShapes Go.WideShapes Go.ChangeAt Go.RowKit
set_option maxRecDepth 100000 in
theorem volumebytes_witness (os : Os) {H : Type} (enc : TypeId × Value → H) :
    ∃ (w : World) (tape : Tape) (i : Input), w.os = os ∧ (w.forCall tape i).Shaped Tryz.checked.prog ∧ i.vars = [] ∧ Input.okWide Tryz.checked.prog (w.forCall tape i) .any w.heap.size 8 i ∧
      (OpenSpec.ofChange Rows.volumeBytesSpec).preRow enc Tryz.checked.prog Tryz.f8 Rows.volumeBytesRow.domain false Rows.volumeBytesRow.laid (w.forCall tape i).memory i.args ∧ ({} : Assume).holds Tryz.checked.prog (lone (Frame.enter Tryz.checked.prog 8 i.args .normal) [] (w.forCall tape i)) := by
  refine ⟨World.laidAll Tryz.prog os vars5, fun _ _ => 0, ⟨#[], #[.agg #[.int .i64 0, .int .i64 0, .int .i64 0, .int .i64 0, .slice none 0 0], .slice none 0 0, .string ⟨#[]⟩, .int .u8 0, .int .u8 0, .int .u8 0], []⟩, World.laidAll_os _ _ _,
    World.shaped_of_ZipB (by kernel_rfl) (by kernel_rfl), rfl, (Input.okWide_of_okWideB (base := 0) (by kernel_rfl)).2, ?_, ?_⟩
  · have hx : DataW.whole enc Tryz.prog ((World.laidAll Tryz.prog os vars5).forCall (fun _ _ => 0) ⟨#[], #[.agg #[.int .i64 0, .int .i64 0, .int .i64 0, .int .i64 0, .slice none 0 0], .slice none 0 0, .string ⟨#[]⟩, .int .u8 0, .int .u8 0, .int .u8 0], []⟩).memory Tryz.f8.params.toList Rows.volumeBytesSpec.vars false [.agg #[.int .i64 0, .int .i64 0, .int .i64 0, .int .i64 0, .slice none 0 0], .slice none 0 0, .string ⟨#[]⟩, .int .u8 0, .int .u8 0, .int .u8 0] 8 =
        some ([.agg [.lit (.int .i64 0), .lit (.int .i64 0), .lit (.int .i64 0), .lit (.int .i64 0), .nil], .nil, .lit (.string []), .lit (.int .u8 0), .lit (.int .u8 0), .lit (.int .u8 0)], [], []) := by kernel_rfl
    exact OpenSpec.preRow_of_cond 8 hx (by kernel_rfl) (fun k hk => by cases hk) (by kernel_rfl) (by rw [MakeChecks.laidMetH_plain _ _ _ (by kernel_rfl)]; exact laidMet_laidAll _ (by kernel_rfl) (by kernel_rfl))
  · simp only [Assume.holds]
    exact ⟨by simp, by simp, fun _ => Modest.zero, by simp, by simp⟩
set_option maxRecDepth 100000 in
theorem volumebytes_lifted (os : Os) (started : os.Started) (H : Type) (enc : TypeId × Value → H) (F : Stop.Interp) :
    ReturnsInHanded {} Tryz.checked os 8 .any ((OpenSpec.ofChange Rows.volumeBytesSpec).preRow enc Tryz.prog Tryz.f8 Rows.volumeBytesRow.domain false Rows.volumeBytesRow.laid) (((OpenSpec.ofChange Rows.volumeBytesSpec).at F).post enc Tryz.prog Tryz.f8 false true false false) := by
  refine returnsInHanded_of_row (C := Tryz.checked) (s := OpenSpec.ofChange Rows.volumeBytesSpec) own started (by kernel_rfl) Tryz.func8 (volumebytes_witness os enc) ?_
  intro W base args ds gs before hval0 hW _ _ hwt0 hL hsh _
  have hval : ∀ (j : Nat) t v, Tryz.f8.params[j]? = some t → args[j]? = some v → Value.okWide Tryz.prog W .any base t v := hval0
  have hW' := hW
  obtain ⟨p, q, hA0, hV, rfl, hfz, hnd⟩ := hW
  have hA : DataW.TrodAll enc Tryz.prog W 0 (fun _ => true) true Tryz.f8.params.toList args.toList ds p := hA0
  rw [Tryz.params8] at hA hval
  have hlt : ∀ x ∈ p ++ q, x.block < W.heap.size := fun x hx => hW'.lt x hx
  obtain ⟨v0, v1, v2, v3, v4, v5, d0, d1, d2, d3, d4, d5, p0, p1, p2, p3, p4, p5, rfl, rfl, rfl, h0, h1, h2, h3, h4, h5⟩ := trodAll_six hA
  obtain ⟨rfl, rfl⟩ := trodVars_none hV
  obtain ⟨x, hx⟩ := open_vol (hval 0 24 v0 rfl rfl) h0
  obtain ⟨er, her, -⟩ := open_errata (hval 1 25 v1 rfl rfl) h1
  obtain ⟨s2, rfl, rfl, rfl, ws2⟩ := Go.ChangeMaps.open_string Tryz.underlying9 (hval 2 9 v2 rfl rfl) h2
  obtain ⟨a3, rfl, rfl, rfl, wd3⟩ := open_int Tryz.underlying5 (hval 3 5 v3 rfl rfl) h3
  have ha3 : 0 ≤ a3 ∧ a3 ≤ 255 := by have h := wd3; simp [Lit.wf] at h; exact h
  obtain ⟨n3, rfl⟩ := Int.eq_ofNat_of_zero_le ha3.1
  have hn3 := Int.ofNat_le.1 ha3.2
  obtain ⟨a4, rfl, rfl, rfl, wd4⟩ := open_int Tryz.underlying5 (hval 4 5 v4 rfl rfl) h4
  have ha4 : 0 ≤ a4 ∧ a4 ≤ 255 := by have h := wd4; simp [Lit.wf] at h; exact h
  obtain ⟨n4, rfl⟩ := Int.eq_ofNat_of_zero_le ha4.1
  have hn4 := Int.ofNat_le.1 ha4.2
  obtain ⟨a5, rfl, rfl, rfl, wd5⟩ := open_int Tryz.underlying5 (hval 5 5 v5 rfl rfl) h5
  have ha5 : 0 ≤ a5 ∧ a5 ≤ 255 := by have h := wd5; simp [Lit.wf] at h; exact h
  obtain ⟨n5, rfl⟩ := Int.eq_ofNat_of_zero_le ha5.1
  have hn5 := Int.ofNat_le.1 ha5.2
  have hG : Glob W := glob_of hL hsh
  refine (bytes_any v0 v1 x er s2 n3 n4 n5 W hx her hn3 hn4 hn5 hG).mono fun e W' ⟨he, hb⟩ => ?_
  subst he
  refine ⟨_, rfl, _, _, _, [], _, [], hW', trodAll_mk1 (shut_bool Tryz.underlying4 _), trodAll_mk6 (keep_arg (by kernel_rfl) (of_decide_eq_true (by kernel_rfl)) h0 hb ?_) (keep_arg (by kernel_rfl) (of_decide_eq_true (by kernel_rfl)) h1 hb ?_) (Go.ChangeMaps.shut_string Tryz.underlying9 ws2) (shut_int Tryz.underlying5 wd3) (shut_int Tryz.underlying5 wd4) (shut_int Tryz.underlying5 wd5), rfl, hb.frame _, fun h => by cases h⟩
  · exact fun x hx => hlt x (by simp [hx])
  · exact fun x hx => hlt x (by simp [hx])
set_option maxRecDepth 100000 in
theorem volumebytes_said : Rows.VolumeBytesSaid :=
  OpenClaim.holds_of_cond 8 Tryz.f8 rfl rfl rfl rfl rfl rfl rfl ⟨rfl, rfl, rfl, rfl, rfl⟩ rfl rfl rfl rfl rfl (by kernel_rfl) Tryz.func8 (by kernel_rfl)
    (of_decide_eq_true (by kernel_rfl)) (by unfold Func.isWrapper; first | (rw [if_pos (by decide +kernel)]; kernel_rfl) | (rw [if_neg (by decide +kernel)]; exact ⟨rfl, rfl⟩))
    (fun os started H enc _ F => by rw [OpenClaim.pre_eq_preRow]; exact volumebytes_lifted os started H enc F)
theorem volumebytes_plain (f : FuncId) (fn : Func) (hf : Tryz.pinned.checked.prog.funcNamed "palantype/palantypelaw10.VolumeBytes" = some f) (hfn : Tryz.pinned.checked.prog.funcs[f]? = some fn) :
    true = Tryz.pinned.checked.prog.looks [] ∧ ∀ (j : Nat) t, fn.params[j]? = some t → Tryz.pinned.checked.prog.wantsStandIn t = false := by
  obtain rfl : f = 8 := Option.some.inj ((show Tryz.prog.funcNamed "palantype/palantypelaw10.VolumeBytes" = some 8 by kernel_rfl).symm.trans hf) |>.symm
  obtain rfl : fn = Tryz.f8 := (Option.some.inj (Tryz.func8.symm.trans hfn)).symm
  refine ⟨by kernel_rfl, fun j t ht => ?_⟩
  rw [Tryz.params8] at ht
  have hm : t ∈ [24, 25, 9, 5, 5, 5] := by simpa using Array.mem_of_getElem? ht
  have hall : ([24, 25, 9, 5, 5, 5].all fun u => !Tryz.prog.wantsStandIn u) = true := by kernel_rfl
  have h1 := List.all_eq_true.1 hall t hm
  exact (show Tryz.prog.wantsStandIn t = false by simpa using h1)
theorem volumebytes_card : Rows.VolumeBytesCardSaid :=
  Claim7.holds_tied_plain_at .later [] _ _ _ _ volumebytes_said (fun _ h => by cases h) (by kernel_rfl) (fun _ h => by cases h) volumeBytes_row_tie rfl ⟨rfl, rfl⟩ (by kernel_rfl) rfl volumebytes_plain (by kernel_rfl)
#print axioms volumebytes_card
end Go.Proofs.YtjkmdpejcgepkaaGreatDoor
