/- Find. -/
import Derived.Test.YtjkmdpejcgepkaaGreatDoorCC
namespace Go.Proofs.YtjkmdpejcgepkaaGreatDoor
open Go.RowKit
def findR (rows : List (List Entry)) (a : Int) : ByteArray × Bool × Int :=
  match locate a rows with
  | none => (⟨#[]⟩, false, 7)
  | some (i, j) => (((rows.getD i []).getD j default).text, ((rows.getD i []).getD j default).gone, 0)
def findE (x : Vol) (errata : List Err) (a to : Int) : ByteArray × Bool × Int :=
  if readE x errata to ≠ 0 then (⟨#[]⟩, false, readE x errata to) else findR (afterR x errata to) a
def findV (p : ByteArray × Bool × Int) : Value := .tuple #[.string p.1, .bool p.2.1, .int .i64 p.2.2]
set_option maxHeartbeats 4000000 in
theorem Find_any (v ev : Value) (x : Vol) (errata : List Err) (a to : Int) (w : World) (hv : IsVol w v x) (hs : x.small) (he : RdE w ev errata) (hl : errata.length ≤ 1000) (hf : ∀ y ∈ errata, y.fits) :
    Calls Tryz.prog 23 #[v, ev, .int .i64 a, .int .i64 to] w fun e w' => e = .returned (findV (findE x errata a to)) ∧ Below w.heap.size w w' := by
  obtain ⟨sv, rfl, A, c, rfl, hc, hm, hr⟩ := id hv
  obtain ⟨A0, c0, rfl, -⟩ := id he
  have hck : ∀ W, Below w.heap.size w W → Calls Tryz.prog 33 #[x.val (.slice A x.parts.length c), .slice A0 errata.length c0] W fun e w' => e = .returned (.int .i64 (checkE x errata)) ∧ Below W.heap.size W w' := fun W hW =>
    check_any _ _ x errata W (hv.below hW) hs (Rd.below he hW) (by omega) hf
  have haf : checkE x errata = 0 → ∀ W, Below w.heap.size w W → Calls Tryz.prog 35 #[x.val (.slice A x.parts.length c), .slice A0 errata.length c0, .int .i64 to] W (AfterPost W (afterR x errata to)) := fun h0 W hW =>
    after_any _ _ x errata to W (hv.below hW) hs (Rd.below he hW) hl (fun y hy => ok_kind (List.all_eq_true.1 (checkE_ok h0).2.2.1 y hy))
  have hsm := afterR_small x errata to hs hl
  have R : Hid (readE x errata to = if checkE x errata ≠ 0 then checkE x errata else if dayB to = false then 2 else 0) := Lib.hid rfl
  have RL : Hid (findV (findE x errata a to) = findV (if readE x errata to ≠ 0 then (⟨#[]⟩, false, readE x errata to) else findR (afterR x errata to) a)) := Lib.hid rfl
  clear hv hs hr
  obtain ⟨n0, n1, n2, n3, ps⟩ := x
  dsimp only [Vol.val] at hck haf R RL hc hm ⊢
  generalize findV (findE _ _ _ _) = rl at RL ⊢
  generalize readE _ _ _ = re at R RL
  generalize afterR _ _ _ = rows at RL haf hsm
  generalize checkE _ _ = ck at R hck haf
  have hB1 : Below w.heap.size w (w.alloc (.cells #[.int .i64 n0, .int .i64 n1, .int .i64 n2, .int .i64 n3, .slice A ps.length c] 37)) := (Below.refl _ _).alloc (Nat.le_refl _) _
  have hck1 := hck _ hB1
  clear hck
  by_cases h0 : ck = 0
  case neg =>
    have HN := Lib.hid (show rl = .tuple #[.string ⟨#[]⟩, .bool false, .int .i64 ck] by rw [RL.out, R.out, if_pos h0, if_pos h0]; rfl)
    have h0' : (ck != 0) = true := by simpa using h0
    clear R RL haf hsm
    go_enter Tryz.func23, Tryz.ntmps23
    go_wp2_with (go_at_call 33; refine hck1.mono ?_; rintro e w1 ⟨rfl, hb1⟩)
    go_ret3
    exact ⟨by rw [HN.out]; rfl, hB1.go hb1⟩
  have h0' : (ck != 0) = false := by simpa using h0
  cases hd : dayB to
  · have HN := Lib.hid (show rl = .tuple #[.string ⟨#[]⟩, .bool false, .int .i64 2] by rw [RL.out, R.out, h0, hd]; rfl)
    clear R RL haf hsm
    go_enter Tryz.func23, Tryz.ntmps23
    go_wp2_with (first | (go_at_call 33; refine hck1.mono ?_; rintro e w1 ⟨rfl, hb1⟩) | (go_at_call 34; refine (day_any _ _).mono ?_; rintro e w' ⟨rfl, rfl⟩; rw [hd]))
    go_ret3
    exact ⟨by rw [HN.out]; rfl, hB1.go hb1⟩
  have HN := Lib.hid (show rl = findV (findR rows a) by rw [RL.out, R.out, h0, hd]; rfl)
  have haf0 := haf h0
  clear R RL haf
  go_enter Tryz.func23, Tryz.ntmps23
  go_wp2_with (first | (go_at_call 33; refine hck1.mono ?_; rintro e w1 ⟨rfl, hb1⟩; obtain ⟨hc1, hf1⟩ := bcell hb1) | (go_at_call 34; refine (day_any _ _).mono ?_; rintro e w' ⟨rfl, rfl⟩; rw [hd]))
  refine (haf0 _ (hB1.go hb1)).mono ?_
  rintro e w2 ⟨eb, rfl, hE, hb2⟩
  have HB := Lib.hid ((hB1.go hb1).go hb2)
  have hfind := edFind_any w2 w1.heap.size eb rows a hE (by have := hsm.1; omega)
  clear hck1 haf0 hb1 hb2 hc1 hf1 hB1
  cases hloc : locate a rows with
  | none =>
    rw [hloc] at hfind
    dsimp only [locV] at hfind
    have HN1 := Lib.hid (show rl = .tuple #[.string ⟨#[]⟩, .bool false, .int .i64 7] by rw [HN.out]; unfold findR; rw [hloc]; rfl)
    go_wp2_with (go_at_call 41; refine hfind.mono ?_; rintro e w3 ⟨rfl, hb3⟩)
    go_ret3
    exact ⟨by rw [HN1.out]; rfl, HB.out.go hb3⟩
  | some ij =>
    obtain ⟨i, j⟩ := ij
    rw [hloc] at hfind
    dsimp only [locV] at hfind
    obtain ⟨r, en, hri, hrj⟩ := locate_spec hloc
    have HN1 := Lib.hid (show rl = .tuple #[.string en.text, .bool en.gone, .int .i64 0] by
      rw [HN.out]; unfold findR; rw [hloc]; simp [findV, List.getD_eq_getElem?_getD, hri, hrj])
    have HE := Lib.hid hE
    clear hE
    go_wp2_with (go_at_call 41; refine hfind.mono ?_; rintro e w3 ⟨rfl, hb3⟩; obtain ⟨ob, oc, gb, gc, V⟩ := (HE.out.below hb3).view hri hrj; have k0 := V.ed; have k1 := V.row; have k2 := V.c0; have k3 := V.c1; have k4 := V.c2; have l0 := V.edlt; have l1 := V.oblt; have l2 := V.gblt; have l3 := V.ilt; have l4 := V.jlt; have hs0 := V.own.rd; clear V)
    go_quiet (skip)
    go_wp2
    go_ret3
    exact ⟨by rw [HN1.out]; rfl, ((HB.out.go hb3).alloc (by have := HB.out.size; have := hb3.size; omega) _).drewN _⟩
end Go.Proofs.YtjkmdpejcgepkaaGreatDoor
