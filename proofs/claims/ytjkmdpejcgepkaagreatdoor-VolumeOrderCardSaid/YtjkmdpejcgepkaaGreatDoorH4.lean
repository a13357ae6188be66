/- VolumeOrder: for the program. -/
import Derived.Test.YtjkmdpejcgepkaaGreatDoorEC
import Derived.Test.YtjkmdpejcgepkaaGreatDoorG5
import Derived.Test.YtjkmdpejcgepkaaGreatDoorJ1
import Derived.Test.YtjkmdpejcgepkaaGreatDoorJ3
import Derived.Deep.QuietTactic
namespace Go.Proofs.YtjkmdpejcgepkaaGreatDoor
open Go.RowKit
set_option maxHeartbeats 16000000 in
set_option maxRecDepth 100000 in
theorem order_any (v ev : Value) (x : Vol) (er : List Err) (d by_ at_ cut en : Nat) (w : World) (hv : IsVol w v x) (he : RdE w ev er) (hd : d ≤ 65535) (hby : by_ ≤ 255) (hat : at_ ≤ 255) (hcut : cut ≤ 255) (hen : en ≤ 255) (hG : Glob w) :
    Calls Tryz.prog 10 #[v, ev, .int .u16 d, .int .u8 by_, .int .u8 at_, .int .u8 cut, .int .u8 en] w fun e w' => e = .returned (.bool true) ∧ Below w.heap.size w w' := by
  obtain ⟨sv, rfl, A, c, rfl, hx⟩ := id hv
  obtain ⟨A0, c0, rfl, -⟩ := id he
  obtain ⟨n0, n1, n2, n3, ps⟩ := x
  have hE := keep1_start w ⟨n0, n1, n2, n3, ps⟩ A c er _ hv he hG
  have k0 := hE.k0; have k1 := hE.k1; have k2 := hE.k2; have k3 := hE.k3; have k4 := hE.k4
  dsimp only [Vol.val] at k0 k1 k2 k3 k4 hE ⊢
  clear hv he hx hG
  go_enter Tryz.func10, Tryz.ntmps10
  go_wp2_with (fail)
  refine (ready_any _ _ ⟨n0, n1, n2, n3, ps⟩ er _ hE.vol hE.err).mono ?_
  rintro e W1 ⟨⟨b, rfl, hn⟩, hb⟩
  have hE := hE.below hb
  ((try clear k0 k1 k2 k3 k4); have k0 := hE.k0; have k1 := hE.k1; have k2 := hE.k2; have k3 := hE.k3; have k4 := hE.k4; dsimp only at k0 k1 k2 k3 k4)
  clear hb
  cases b
  · clear hn
    (go_wp2_with (fail); refine (wakes_any _ hE.glob).mono ?_; rintro e W2 ⟨rfl, hb⟩; go_wp2; go_ret; exact ⟨rfl, hE.base.trans (hb.mono hE.base.size)⟩)
  have hn1 := Lib.hid (hn rfl)
  clear hn
  obtain ⟨hs, -, ht⟩ := hn1.out.1.small
  have hq := hn1.out.1.errs
  have hq1 : er.length ≤ 1000000 := Nat.le_trans hq (by decide)
  have hq5 : er.length ≤ 100000 := Nat.le_trans hq (by decide)
  have hl1 : er.length ≤ 1000 := Nat.le_trans hq (by decide)
  have hf1 : ∀ z ∈ er, z.fits := fun z hz => Nat.le_trans (ht z hz) (by decide)
  clear ht
  go_wp2_with (fail)
  refine (lerrata_any _ er _ hE.err hq1).mono ?_
  rintro e WR ⟨va, rfl, hOa, hb⟩
  have hE := hE.below hb
  clear hb
  ((try clear k0 k1 k2 k3 k4); have k0 := hE.k0; have k1 := hE.k1; have k2 := hE.k2; have k3 := hE.k3; have k4 := hE.k4; dsimp only at k0 k1 k2 k3 k4)
  have HFA : Hid ((va = .slice none 0 0 ∧ er.length = 0) ∨ ∃ g cap, va = .slice (some ⟨g, 0, none⟩) er.length cap ∧ er.length ≤ cap ∧ cap ≤ maxLen) := Lib.hid (by
    rcases hOa.2 with ⟨h1, h2⟩ | ⟨g, cap, cur, h1, -, -, h2, h3, -⟩
    · exact .inl ⟨h1, h2⟩
    · exact .inr ⟨g, cap, h1, h2, h3⟩)
  have hva : RdE WR va er := hOa.rd
  clear hOa
  go_wp2_with (fail)
  refine (turned_any va er by_ at_ _ hva hq5 hby hat).mono ?_
  rintro e WT ⟨vt, t, rfl, hOt, htp, hb⟩
  have hE := hE.below hb
  have hva := Rd.below hva hb
  have hvt : RdE WT vt t := hOt.rd
  have HTP := Lib.hid htp
  clear hOt hb htp
  ((try clear k0 k1 k2 k3 k4); have k0 := hE.k0; have k1 := hE.k1; have k2 := hE.k2; have k3 := hE.k3; have k4 := hE.k4; dsimp only at k0 k1 k2 k3 k4)
  have hd0 : (0 : Int) ≤ (d : Int) := by omega
  have hd1 : (d : Int) ≤ 99999 := by omega
  have htl : t.length = er.length := HTP.out.length_eq
  have hlt1 : t.length ≤ 1000 := by omega
  have hlt5 : t.length ≤ 100000 := by omega
  have HTL := Lib.hid htl
  clear htl
  have hft : ∀ z ∈ t, z.fits := fun z hz => hf1 z (HTP.out.mem_iff.1 hz)
  have HRD := Lib.hid (read_perm hn1.out.2.1 hn1.out.2.2 HTP.out hd0 hd1)
  have HPL := Lib.hid (places_perm hn1.out.2.1 hn1.out.2.2 HTP.out)
  (go_wp2_with (fail); refine (lvolume_any _ ⟨n0, n1, n2, n3, ps⟩ _ hE.vol hs).mono ?_; rintro e WV ⟨vv, rfl, hV, hb⟩; (have hE := hE.below hb; (try have hva := Rd.below hva hb); (try have hvt := Rd.below hvt hb); (try have hV := hV.below hb); (try have hA := Rd.below hA hb); (try have hB := Rd.below hB hb); (try have hP := Rd.below hP hb); (try have hx1 := Rd.below hx1 hb); (try have hx2 := Rd.below hx2 hb); (try have hs1 := Rd.below hs1 hb); (try have hs2 := Rd.below hs2 hb); (try have hs3 := Rd.below hs3 hb); (try have hs4 := Rd.below hs4 hb); (try have hs5 := Rd.below hs5 hb); (try have hs6 := Rd.below hs6 hb); (try have hs7 := Rd.below hs7 hb); clear hb; ((try clear k0 k1 k2 k3 k4); have k0 := hE.k0; have k1 := hE.k1; have k2 := hE.k2; have k3 := hE.k3; have k4 := hE.k4; dsimp only at k0 k1 k2 k3 k4)))
  go_wp2_with (fail)
  refine (Read_any _ _ ⟨n0, n1, n2, n3, ps⟩ er d _ hV hs hva hl1 hf1).mono ?_
  rw [HRD.out.1]
  rintro e WA ⟨v1, rfl, hO, hb⟩
  have hA := hO.rd
  clear hO hV
  have hA := hA
  have hE := hE.below hb; have hva := Rd.below hva hb; have hvt := Rd.below hvt hb
  clear hb
  ((try clear k0 k1 k2 k3 k4); have k0 := hE.k0; have k1 := hE.k1; have k2 := hE.k2; have k3 := hE.k3; have k4 := hE.k4; dsimp only at k0 k1 k2 k3 k4)
  (go_wp2_with (fail); refine (lvolume_any _ ⟨n0, n1, n2, n3, ps⟩ _ hE.vol hs).mono ?_; rintro e WV ⟨vv, rfl, hV, hb⟩; (have hE := hE.below hb; (try have hva := Rd.below hva hb); (try have hvt := Rd.below hvt hb); (try have hV := hV.below hb); (try have hA := Rd.below hA hb); (try have hB := Rd.below hB hb); (try have hP := Rd.below hP hb); (try have hx1 := Rd.below hx1 hb); (try have hx2 := Rd.below hx2 hb); (try have hs1 := Rd.below hs1 hb); (try have hs2 := Rd.below hs2 hb); (try have hs3 := Rd.below hs3 hb); (try have hs4 := Rd.below hs4 hb); (try have hs5 := Rd.below hs5 hb); (try have hs6 := Rd.below hs6 hb); (try have hs7 := Rd.below hs7 hb); clear hb; ((try clear k0 k1 k2 k3 k4); have k0 := hE.k0; have k1 := hE.k1; have k2 := hE.k2; have k3 := hE.k3; have k4 := hE.k4; dsimp only at k0 k1 k2 k3 k4)))
  go_wp2_with (fail)
  refine (Read_any _ _ ⟨n0, n1, n2, n3, ps⟩ t d _ hV hs hvt hlt1 hft).mono ?_
  rw [HRD.out.2.1, HRD.out.2.2]
  rintro e WA ⟨v2, rfl, hO, hb⟩
  clear hV
  (have hE := hE.below hb; (try have hva := Rd.below hva hb); (try have hvt := Rd.below hvt hb); (try have hV := hV.below hb); (try have hA := Rd.below hA hb); (try have hB := Rd.below hB hb); (try have hP := Rd.below hP hb); (try have hx1 := Rd.below hx1 hb); (try have hx2 := Rd.below hx2 hb); (try have hs1 := Rd.below hs1 hb); (try have hs2 := Rd.below hs2 hb); (try have hs3 := Rd.below hs3 hb); (try have hs4 := Rd.below hs4 hb); (try have hs5 := Rd.below hs5 hb); (try have hs6 := Rd.below hs6 hb); (try have hs7 := Rd.below hs7 hb); clear hb; ((try clear k0 k1 k2 k3 k4); have k0 := hE.k0; have k1 := hE.k1; have k2 := hE.k2; have k3 := hE.k3; have k4 := hE.k4; dsimp only at k0 k1 k2 k3 k4))
  have hB := hO.rd
  clear hO
  (go_wp2_with (fail); refine (lvolume_any _ ⟨n0, n1, n2, n3, ps⟩ _ hE.vol hs).mono ?_; rintro e WV ⟨vv, rfl, hV, hb⟩; (have hE := hE.below hb; (try have hva := Rd.below hva hb); (try have hvt := Rd.below hvt hb); (try have hV := hV.below hb); (try have hA := Rd.below hA hb); (try have hB := Rd.below hB hb); (try have hP := Rd.below hP hb); (try have hx1 := Rd.below hx1 hb); (try have hx2 := Rd.below hx2 hb); (try have hs1 := Rd.below hs1 hb); (try have hs2 := Rd.below hs2 hb); (try have hs3 := Rd.below hs3 hb); (try have hs4 := Rd.below hs4 hb); (try have hs5 := Rd.below hs5 hb); (try have hs6 := Rd.below hs6 hb); (try have hs7 := Rd.below hs7 hb); clear hb; ((try clear k0 k1 k2 k3 k4); have k0 := hE.k0; have k1 := hE.k1; have k2 := hE.k2; have k3 := hE.k3; have k4 := hE.k4; dsimp only at k0 k1 k2 k3 k4)))
  go_wp2_with (fail)
  refine (Print_any _ _ ⟨n0, n1, n2, n3, ps⟩ er _ hV hs hva hl1 hf1).mono ?_
  rw [HPL.out.1]
  rintro e WP ⟨v3, rfl, hO, hb⟩
  clear hV
  (have hE := hE.below hb; (try have hva := Rd.below hva hb); (try have hvt := Rd.below hvt hb); (try have hV := hV.below hb); (try have hA := Rd.below hA hb); (try have hB := Rd.below hB hb); (try have hP := Rd.below hP hb); (try have hx1 := Rd.below hx1 hb); (try have hx2 := Rd.below hx2 hb); (try have hs1 := Rd.below hs1 hb); (try have hs2 := Rd.below hs2 hb); (try have hs3 := Rd.below hs3 hb); (try have hs4 := Rd.below hs4 hb); (try have hs5 := Rd.below hs5 hb); (try have hs6 := Rd.below hs6 hb); (try have hs7 := Rd.below hs7 hb); clear hb; ((try clear k0 k1 k2 k3 k4); have k0 := hE.k0; have k1 := hE.k1; have k2 := hE.k2; have k3 := hE.k3; have k4 := hE.k4; dsimp only at k0 k1 k2 k3 k4))
  have hP := hO.rd
  clear hO
  (go_wp2_with (fail); refine (lvolume_any _ ⟨n0, n1, n2, n3, ps⟩ _ hE.vol hs).mono ?_; rintro e WV ⟨vv, rfl, hV, hb⟩; (have hE := hE.below hb; (try have hva := Rd.below hva hb); (try have hvt := Rd.below hvt hb); (try have hV := hV.below hb); (try have hA := Rd.below hA hb); (try have hB := Rd.below hB hb); (try have hP := Rd.below hP hb); (try have hx1 := Rd.below hx1 hb); (try have hx2 := Rd.below hx2 hb); (try have hs1 := Rd.below hs1 hb); (try have hs2 := Rd.below hs2 hb); (try have hs3 := Rd.below hs3 hb); (try have hs4 := Rd.below hs4 hb); (try have hs5 := Rd.below hs5 hb); (try have hs6 := Rd.below hs6 hb); (try have hs7 := Rd.below hs7 hb); clear hb; ((try clear k0 k1 k2 k3 k4); have k0 := hE.k0; have k1 := hE.k1; have k2 := hE.k2; have k3 := hE.k3; have k4 := hE.k4; dsimp only at k0 k1 k2 k3 k4)))
  go_wp2_with (fail)
  refine (Print_any _ _ ⟨n0, n1, n2, n3, ps⟩ t _ hV hs hvt hlt1 hft).mono ?_
  rw [HPL.out.2.1, HPL.out.2.2]
  rintro e WP ⟨v4, rfl, hO, hb⟩
  clear hV
  (have hE := hE.below hb; (try have hva := Rd.below hva hb); (try have hvt := Rd.below hvt hb); (try have hV := hV.below hb); (try have hA := Rd.below hA hb); (try have hB := Rd.below hB hb); (try have hP := Rd.below hP hb); (try have hx1 := Rd.below hx1 hb); (try have hx2 := Rd.below hx2 hb); (try have hs1 := Rd.below hs1 hb); (try have hs2 := Rd.below hs2 hb); (try have hs3 := Rd.below hs3 hb); (try have hs4 := Rd.below hs4 hb); (try have hs5 := Rd.below hs5 hb); (try have hs6 := Rd.below hs6 hb); (try have hs7 := Rd.below hs7 hb); clear hb; ((try clear k0 k1 k2 k3 k4); have k0 := hE.k0; have k1 := hE.k1; have k2 := hE.k2; have k3 := hE.k3; have k4 := hE.k4; dsimp only at k0 k1 k2 k3 k4))
  have hQ := hO.rd
  clear hO
  go_wp2_with (fail)
  refine (parascmp_any _ _ _ _ _ hA hB).mono ?_
  rintro e WQ ⟨b, rfl, hb1, hb⟩
  obtain rfl : b = true := hb1.2 rfl
  have hQ := Rd.below hQ hb
  clear hb1 hA hB
  (have hE := hE.below hb; (try have hva := Rd.below hva hb); (try have hvt := Rd.below hvt hb); (try have hV := hV.below hb); (try have hA := Rd.below hA hb); (try have hB := Rd.below hB hb); (try have hP := Rd.below hP hb); (try have hx1 := Rd.below hx1 hb); (try have hx2 := Rd.below hx2 hb); (try have hs1 := Rd.below hs1 hb); (try have hs2 := Rd.below hs2 hb); (try have hs3 := Rd.below hs3 hb); (try have hs4 := Rd.below hs4 hb); (try have hs5 := Rd.below hs5 hb); (try have hs6 := Rd.below hs6 hb); (try have hs7 := Rd.below hs7 hb); clear hb; ((try clear k0 k1 k2 k3 k4); have k0 := hE.k0; have k1 := hE.k1; have k2 := hE.k2; have k3 := hE.k3; have k4 := hE.k4; dsimp only at k0 k1 k2 k3 k4))
  go_wp2_with (fail)
  refine (placescmp_any _ _ _ _ _ hP hQ).mono ?_
  rintro e WQ ⟨b, rfl, hb1, hb⟩
  obtain rfl : b = true := hb1.2 rfl
  clear hb1 hP hQ HRD HPL
  (have hE := hE.below hb; (try have hva := Rd.below hva hb); (try have hvt := Rd.below hvt hb); (try have hV := hV.below hb); (try have hA := Rd.below hA hb); (try have hB := Rd.below hB hb); (try have hP := Rd.below hP hb); (try have hx1 := Rd.below hx1 hb); (try have hx2 := Rd.below hx2 hb); (try have hs1 := Rd.below hs1 hb); (try have hs2 := Rd.below hs2 hb); (try have hs3 := Rd.below hs3 hb); (try have hs4 := Rd.below hs4 hb); (try have hs5 := Rd.below hs5 hb); (try have hs6 := Rd.below hs6 hb); (try have hs7 := Rd.below hs7 hb); clear hb; ((try clear k0 k1 k2 k3 k4); have k0 := hE.k0; have k1 := hE.k1; have k2 := hE.k2; have k3 := hE.k3; have k4 := hE.k4; dsimp only at k0 k1 k2 k3 k4))
  obtain ⟨A5, c5, rfl, -, -, -⟩ := id hva
  have hi := Nat.mod_lt cut (show 0 < er.length + 1 by omega)
  have hmi : (cut : Int) % ((er.length : Int) + 1) = ((cut % (er.length + 1) : Nat) : Int) := by simp
  have hmi2 : (cut : Int).tmod ((er.length : Int) + 1) = ((cut % (er.length + 1) : Nat) : Int) := rfl
  generalize cut % (er.length + 1) = i at hi hmi hmi2
  have hj := Nat.mod_lt en (show 0 < er.length - i + 1 by omega)
  have hmj : (en : Int) % ((er.length : Int) - (i : Int) + 1) = ((en % (er.length - i + 1) : Nat) : Int) := by
    rw [show (er.length : Int) - (i : Int) + 1 = ((er.length - i + 1 : Nat) : Int) by omega]; simp
  generalize en % (er.length - i + 1) = j at hj hmj
  obtain ⟨kk, hkk⟩ : ∃ kk, i + j = kk := ⟨_, rfl⟩
  have hsum : (i : Int) + (j : Int) = (kk : Int) := by omega
  have hik : i ≤ kk := by omega
  have hke : kk ≤ er.length := by omega
  have HKK := Lib.hid hkk
  have ii0 : (0 : Int) ≤ (i : Int) := by omega
  have ii1 : (i : Int) ≤ (er.length : Int) := by omega
  have kk0 : (0 : Int) ≤ (kk : Int) := by omega
  have kk1 : (kk : Int) ≤ (er.length : Int) := by omega
  have nn : ¬ (er.length : Int) + 1 = 0 := by omega
  have nn2 : ¬ (er.length : Int) - (i : Int) + 1 = 0 := by omega
  clear hkk
  go_wp2_with (fail)
  have HVT := Lib.hid hvt
  have HVA := Lib.hid hva
  have HE := Lib.hid hE
  clear hva hvt hE
  go_cut [27, 28, 29] from 124 to 130 (fun s27 s28 s29 wx => Aside (RdE wx s27 (er.take kk) ∧ RdE wx s28 (er.drop i) ∧ s29 = vt ∧ Below WQ.heap.size WQ wx))
  case first =>
    clear k0 k1 k2 k3 k4 HE
    have hva := HVA.out
    rcases HFA.out with ⟨e, hz⟩ | ⟨g, cap, e, h1, h2⟩
    · simp only [Value.slice.injEq] at e
      obtain ⟨rfl, -, rfl⟩ := e
      obtain rfl : er = [] := List.eq_nil_of_length_eq_zero hz
      obtain rfl : i = 0 := by simpa using hi
      obtain rfl : kk = 0 := by simpa using hke
      clear hmi hmi2 hmj hsum
      have HN : Hid (RdE WQ (.slice none 0 0) []) := Lib.hid hva
      clear hva
      go_quiet (skip)
      go_wp2_with (fail)
      go_meet
      have hbq : Below WQ.heap.size WQ (WQ.drewN nq) := (Below.refl _ _).drewN nq
      exact ⟨Rd.below HN.out hbq, Rd.below HN.out hbq, rfl, hbq⟩
    · simp only [Value.slice.injEq, true_and] at e
      obtain ⟨rfl, rfl⟩ := e
      have z1 : (kk : Int) ≤ (c5 : Int) := by omega
      have z2 : (er.length : Int) ≤ (c5 : Int) := by omega
      have HT := Lib.hid (Rd.take hva kk hke)
      have HD : Hid (RdE WQ (.slice (some ⟨g, i * 6, none⟩) (er.length - i) (c5 - i)) (er.drop i)) := Lib.hid (by have h := Rd.drop hva i (by omega); rw [Nat.zero_add] at h; exact h)
      clear hva
      by_cases hci : c5 = i
      · have hni : er.length = i := by omega
        subst hci
        have HZ : Hid (∀ W, RdE W (.slice (some ⟨g, 0, none⟩) 0 0) (er.drop c5)) := Lib.hid fun W => by
          have h0 : er.drop c5 = [] := by rw [List.drop_eq_nil_iff]; omega
          rw [h0]
          exact ⟨_, 0, rfl, Nat.zero_le _, by simp, fun h => absurd h (Nat.lt_irrefl 0)⟩
        clear hni HD
        go_quiet (skip)
        go_wp2_with (fail)
        go_meet
        have hbq : Below WQ.heap.size WQ (WQ.drewN nq) := (Below.refl _ _).drewN nq
        exact ⟨Rd.below HT.out hbq, HZ.out _, rfl, hbq⟩
      · go_quiet (skip)
        go_wp2_with (fail)
        go_meet
        have hbq : Below WQ.heap.size WQ (WQ.drewN nq) := (Below.refl _ _).drewN nq
        exact ⟨Rd.below HT.out hbq, Rd.below HD.out hbq, rfl, hbq⟩
  case rest =>
    obtain ⟨hx1, hx2, e29, hb⟩ := hcut.out
    subst e29
    have hE := HE.out
    have hva := HVA.out
    have hvt := HVT.out
    clear HE HVA HVT hcut HFA hmi hmi2 hmj hsum nn nn2 HKK
    (have hE := hE.below hb; (try have hva := Rd.below hva hb); (try have hvt := Rd.below hvt hb); (try have hV := hV.below hb); (try have hA := Rd.below hA hb); (try have hB := Rd.below hB hb); (try have hP := Rd.below hP hb); (try have hx1 := Rd.below hx1 hb); (try have hx2 := Rd.below hx2 hb); (try have hs1 := Rd.below hs1 hb); (try have hs2 := Rd.below hs2 hb); (try have hs3 := Rd.below hs3 hb); (try have hs4 := Rd.below hs4 hb); (try have hs5 := Rd.below hs5 hb); (try have hs6 := Rd.below hs6 hb); (try have hs7 := Rd.below hs7 hb); clear hb; ((try clear k0 k1 k2 k3 k4); have k0 := hE.k0; have k1 := hE.k1; have k2 := hE.k2; have k3 := hE.k3; have k4 := hE.k4; dsimp only at k0 k1 k2 k3 k4))
    have hOk := Lib.hid hn1.out.2.2
    have hsl : (sortE er).length ≤ 100000 := by rw [(sortE_spec er).2.1]; exact hq5
    have hsm : ∀ y, y ∈ sortE er ↔ y ∈ er := fun y => (sortE_spec er).1.mem_iff
    have htm : ∀ y, y ∈ t ↔ y ∈ er := fun y => HTP.out.mem_iff
    have htk : (er.take kk).length ≤ 100000 := by rw [List.length_take]; omega
    have hdk : (er.drop i).length ≤ 100000 := by rw [List.length_drop]; omega
    have c1 : ∀ y, y ∈ er.take kk ++ er.drop i ↔ y ∈ er := mem_cut hik
    have c2 : ∀ y, y ∈ er.drop i ++ er.take kk ↔ y ∈ er := fun y => by rw [List.mem_append, or_comm, ← List.mem_append]; exact c1 y
    have c3 : ∀ y, y ∈ er.drop i ++ t ↔ y ∈ er := fun y => by rw [List.mem_append, htm]; exact ⟨fun h => h.elim List.mem_of_mem_drop id, .inr⟩
    have c4 : ∀ y, y ∈ sortE er ++ t ↔ y ∈ er := fun y => by rw [List.mem_append, htm, hsm]; exact ⟨fun h => h.elim id id, .inr⟩
    have c5 : ∀ y, y ∈ er.take kk ++ sortE er ↔ y ∈ er := fun y => by rw [List.mem_append, hsm]; exact ⟨fun h => h.elim List.mem_of_mem_take id, .inr⟩
    have c6 : ∀ y, y ∈ er ++ t ↔ y ∈ er := fun y => by rw [List.mem_append, htm]; exact ⟨fun h => h.elim id id, .inr⟩
    have HM1 := Lib.hid fun va vb (W : World) (a : RdE W va (er.take kk)) (b : RdE W vb (er.drop i)) => merge_to va vb _ _ (sortE er) W a b htk hdk (num_in hOk.out fun y hy => (c1 y).1 hy) (merge_all hOk.out c1)
    have HM2 := Lib.hid fun va vb (W : World) (a : RdE W va (er.drop i)) (b : RdE W vb (er.take kk)) => merge_to va vb _ _ (sortE er) W a b hdk htk (num_in hOk.out fun y hy => (c2 y).1 hy) (merge_all hOk.out c2)
    have HM3 := Lib.hid fun va vb (W : World) (a : RdE W va (er.drop i)) (b : RdE W vb t) => merge_to va vb _ _ (sortE er) W a b hdk hlt5 (num_in hOk.out fun y hy => (c3 y).1 hy) (merge_all hOk.out c3)
    have HM4 := Lib.hid fun va vb (W : World) (a : RdE W va (sortE er)) (b : RdE W vb t) => merge_to va vb _ _ (sortE er) W a b hsl hlt5 (num_in hOk.out fun y hy => (c4 y).1 hy) (merge_all hOk.out c4)
    have HM5 := Lib.hid fun va vb (W : World) (a : RdE W va (er.take kk)) (b : RdE W vb (sortE er)) => merge_to va vb _ _ (sortE er) W a b htk hsl (num_in hOk.out fun y hy => (c5 y).1 hy) (merge_all hOk.out c5)
    have HM6 := Lib.hid fun va vb (W : World) (a : RdE W va er) (b : RdE W vb t) => merge_to va vb _ _ (sortE er) W a b hq5 hlt5 (num_in hOk.out fun y hy => (c6 y).1 hy) (merge_all hOk.out c6)
    clear c1 c2 c3 c4 c5 c6 hsm htm htk hdk hsl
    go_wp2_with (fail)
    refine (HM1.out _ _ _ hx1 hx2).mono ?_
    rintro e WM ⟨m1, rfl, hO, hb⟩
    (have hE := hE.below hb; (try have hva := Rd.below hva hb); (try have hvt := Rd.below hvt hb); (try have hV := hV.below hb); (try have hA := Rd.below hA hb); (try have hB := Rd.below hB hb); (try have hP := Rd.below hP hb); (try have hx1 := Rd.below hx1 hb); (try have hx2 := Rd.below hx2 hb); (try have hs1 := Rd.below hs1 hb); (try have hs2 := Rd.below hs2 hb); (try have hs3 := Rd.below hs3 hb); (try have hs4 := Rd.below hs4 hb); (try have hs5 := Rd.below hs5 hb); (try have hs6 := Rd.below hs6 hb); (try have hs7 := Rd.below hs7 hb); clear hb; ((try clear k0 k1 k2 k3 k4); have k0 := hE.k0; have k1 := hE.k1; have k2 := hE.k2; have k3 := hE.k3; have k4 := hE.k4; dsimp only at k0 k1 k2 k3 k4))
    have hs1 : RdE WM m1 (sortE er) := hO.rd
    clear hO HM1
    go_wp2_with (fail)
    refine (HM2.out _ _ _ hx2 hx1).mono ?_
    rintro e WM ⟨m2, rfl, hO, hb⟩
    (have hE := hE.below hb; (try have hva := Rd.below hva hb); (try have hvt := Rd.below hvt hb); (try have hV := hV.below hb); (try have hA := Rd.below hA hb); (try have hB := Rd.below hB hb); (try have hP := Rd.below hP hb); (try have hx1 := Rd.below hx1 hb); (try have hx2 := Rd.below hx2 hb); (try have hs1 := Rd.below hs1 hb); (try have hs2 := Rd.below hs2 hb); (try have hs3 := Rd.below hs3 hb); (try have hs4 := Rd.below hs4 hb); (try have hs5 := Rd.below hs5 hb); (try have hs6 := Rd.below hs6 hb); (try have hs7 := Rd.below hs7 hb); clear hb; ((try clear k0 k1 k2 k3 k4); have k0 := hE.k0; have k1 := hE.k1; have k2 := hE.k2; have k3 := hE.k3; have k4 := hE.k4; dsimp only at k0 k1 k2 k3 k4))
    have hs2 : RdE WM m2 (sortE er) := hO.rd
    clear hO HM2
    go_wp2_with (fail)
    refine (HM3.out _ _ _ hx2 hvt).mono ?_
    rintro e WM ⟨m3, rfl, hO, hb⟩
    (have hE := hE.below hb; (try have hva := Rd.below hva hb); (try have hvt := Rd.below hvt hb); (try have hV := hV.below hb); (try have hA := Rd.below hA hb); (try have hB := Rd.below hB hb); (try have hP := Rd.below hP hb); (try have hx1 := Rd.below hx1 hb); (try have hx2 := Rd.below hx2 hb); (try have hs1 := Rd.below hs1 hb); (try have hs2 := Rd.below hs2 hb); (try have hs3 := Rd.below hs3 hb); (try have hs4 := Rd.below hs4 hb); (try have hs5 := Rd.below hs5 hb); (try have hs6 := Rd.below hs6 hb); (try have hs7 := Rd.below hs7 hb); clear hb; ((try clear k0 k1 k2 k3 k4); have k0 := hE.k0; have k1 := hE.k1; have k2 := hE.k2; have k3 := hE.k3; have k4 := hE.k4; dsimp only at k0 k1 k2 k3 k4))
    have hs3 : RdE WM m3 (sortE er) := hO.rd
    clear hO HM3 hx2
    go_wp2_with (fail)
    refine (HM4.out _ _ _ hs1 hvt).mono ?_
    rintro e WM ⟨m4, rfl, hO, hb⟩
    (have hE := hE.below hb; (try have hva := Rd.below hva hb); (try have hvt := Rd.below hvt hb); (try have hV := hV.below hb); (try have hA := Rd.below hA hb); (try have hB := Rd.below hB hb); (try have hP := Rd.below hP hb); (try have hx1 := Rd.below hx1 hb); (try have hx2 := Rd.below hx2 hb); (try have hs1 := Rd.below hs1 hb); (try have hs2 := Rd.below hs2 hb); (try have hs3 := Rd.below hs3 hb); (try have hs4 := Rd.below hs4 hb); (try have hs5 := Rd.below hs5 hb); (try have hs6 := Rd.below hs6 hb); (try have hs7 := Rd.below hs7 hb); clear hb; ((try clear k0 k1 k2 k3 k4); have k0 := hE.k0; have k1 := hE.k1; have k2 := hE.k2; have k3 := hE.k3; have k4 := hE.k4; dsimp only at k0 k1 k2 k3 k4))
    have hs4 : RdE WM m4 (sortE er) := hO.rd
    clear hO HM4
    go_wp2_with (fail)
    refine (HM5.out _ _ _ hx1 hs3).mono ?_
    rintro e WM ⟨m5, rfl, hO, hb⟩
    (have hE := hE.below hb; (try have hva := Rd.below hva hb); (try have hvt := Rd.below hvt hb); (try have hV := hV.below hb); (try have hA := Rd.below hA hb); (try have hB := Rd.below hB hb); (try have hP := Rd.below hP hb); (try have hx1 := Rd.below hx1 hb); (try have hx2 := Rd.below hx2 hb); (try have hs1 := Rd.below hs1 hb); (try have hs2 := Rd.below hs2 hb); (try have hs3 := Rd.below hs3 hb); (try have hs4 := Rd.below hs4 hb); (try have hs5 := Rd.below hs5 hb); (try have hs6 := Rd.below hs6 hb); (try have hs7 := Rd.below hs7 hb); clear hb; ((try clear k0 k1 k2 k3 k4); have k0 := hE.k0; have k1 := hE.k1; have k2 := hE.k2; have k3 := hE.k3; have k4 := hE.k4; dsimp only at k0 k1 k2 k3 k4))
    have hs5 : RdE WM m5 (sortE er) := hO.rd
    clear hO HM5 hx1 hs3
    go_wp2_with (fail)
    refine (HM6.out _ _ _ hva hvt).mono ?_
    rintro e WM ⟨m6, rfl, hO, hb⟩
    (have hE := hE.below hb; (try have hva := Rd.below hva hb); (try have hvt := Rd.below hvt hb); (try have hV := hV.below hb); (try have hA := Rd.below hA hb); (try have hB := Rd.below hB hb); (try have hP := Rd.below hP hb); (try have hx1 := Rd.below hx1 hb); (try have hx2 := Rd.below hx2 hb); (try have hs1 := Rd.below hs1 hb); (try have hs2 := Rd.below hs2 hb); (try have hs3 := Rd.below hs3 hb); (try have hs4 := Rd.below hs4 hb); (try have hs5 := Rd.below hs5 hb); (try have hs6 := Rd.below hs6 hb); (try have hs7 := Rd.below hs7 hb); clear hb; ((try clear k0 k1 k2 k3 k4); have k0 := hE.k0; have k1 := hE.k1; have k2 := hE.k2; have k3 := hE.k3; have k4 := hE.k4; dsimp only at k0 k1 k2 k3 k4))
    have hs6 : RdE WM m6 (sortE er) := hO.rd
    clear hO HM6 hva hvt
    go_wp2_with (fail)
    refine (rsorted_any _ er _ hE.err hq1).mono ?_
    rintro e WS ⟨m7, xs, rfl, hO, ⟨hp1, hp2⟩, hb⟩
    obtain rfl := rsorted_eq hOk.out hp1 hp2
    clear hp1 hp2
    (have hE := hE.below hb; (try have hva := Rd.below hva hb); (try have hvt := Rd.below hvt hb); (try have hV := hV.below hb); (try have hA := Rd.below hA hb); (try have hB := Rd.below hB hb); (try have hP := Rd.below hP hb); (try have hx1 := Rd.below hx1 hb); (try have hx2 := Rd.below hx2 hb); (try have hs1 := Rd.below hs1 hb); (try have hs2 := Rd.below hs2 hb); (try have hs3 := Rd.below hs3 hb); (try have hs4 := Rd.below hs4 hb); (try have hs5 := Rd.below hs5 hb); (try have hs6 := Rd.below hs6 hb); (try have hs7 := Rd.below hs7 hb); clear hb; ((try clear k0 k1 k2 k3 k4); have k0 := hE.k0; have k1 := hE.k1; have k2 := hE.k2; have k3 := hE.k3; have k4 := hE.k4; dsimp only at k0 k1 k2 k3 k4))
    have hs7 : RdE WS m7 (sortE er) := hO.rd
    clear hO
    go_wp2_with (fail)
    refine (lerrata_any _ (sortE er) _ hs7 (by rw [(sortE_spec er).2.1]; exact hq1)).mono ?_
    rintro e WS ⟨m8, rfl, hO, hb⟩
    clear hs7
    (have hE := hE.below hb; (try have hva := Rd.below hva hb); (try have hvt := Rd.below hvt hb); (try have hV := hV.below hb); (try have hA := Rd.below hA hb); (try have hB := Rd.below hB hb); (try have hP := Rd.below hP hb); (try have hx1 := Rd.below hx1 hb); (try have hx2 := Rd.below hx2 hb); (try have hs1 := Rd.below hs1 hb); (try have hs2 := Rd.below hs2 hb); (try have hs3 := Rd.below hs3 hb); (try have hs4 := Rd.below hs4 hb); (try have hs5 := Rd.below hs5 hb); (try have hs6 := Rd.below hs6 hb); (try have hs7 := Rd.below hs7 hb); clear hb; ((try clear k0 k1 k2 k3 k4); have k0 := hE.k0; have k1 := hE.k1; have k2 := hE.k2; have k3 := hE.k3; have k4 := hE.k4; dsimp only at k0 k1 k2 k3 k4))
    have hs7 : RdE WS m8 (sortE er) := hO.rd
    clear hO
    go_wp2_with (fail)
    refine (samecmp_any _ _ _ _ _ hs1 hs2).mono ?_
    rintro e WS ⟨b, rfl, hb1, hb⟩
    obtain rfl : b = true := hb1.2 rfl
    clear hb1 hs1 hs2
    (have hE := hE.below hb; (try have hva := Rd.below hva hb); (try have hvt := Rd.below hvt hb); (try have hV := hV.below hb); (try have hA := Rd.below hA hb); (try have hB := Rd.below hB hb); (try have hP := Rd.below hP hb); (try have hx1 := Rd.below hx1 hb); (try have hx2 := Rd.below hx2 hb); (try have hs1 := Rd.below hs1 hb); (try have hs2 := Rd.below hs2 hb); (try have hs3 := Rd.below hs3 hb); (try have hs4 := Rd.below hs4 hb); (try have hs5 := Rd.below hs5 hb); (try have hs6 := Rd.below hs6 hb); (try have hs7 := Rd.below hs7 hb); clear hb; ((try clear k0 k1 k2 k3 k4); have k0 := hE.k0; have k1 := hE.k1; have k2 := hE.k2; have k3 := hE.k3; have k4 := hE.k4; dsimp only at k0 k1 k2 k3 k4))
    go_wp2_with (fail)
    refine (samecmp_any _ _ _ _ _ hs4 hs5).mono ?_
    rintro e WS ⟨b, rfl, hb1, hb⟩
    obtain rfl : b = true := hb1.2 rfl
    clear hb1 hs5
    (have hE := hE.below hb; (try have hva := Rd.below hva hb); (try have hvt := Rd.below hvt hb); (try have hV := hV.below hb); (try have hA := Rd.below hA hb); (try have hB := Rd.below hB hb); (try have hP := Rd.below hP hb); (try have hx1 := Rd.below hx1 hb); (try have hx2 := Rd.below hx2 hb); (try have hs1 := Rd.below hs1 hb); (try have hs2 := Rd.below hs2 hb); (try have hs3 := Rd.below hs3 hb); (try have hs4 := Rd.below hs4 hb); (try have hs5 := Rd.below hs5 hb); (try have hs6 := Rd.below hs6 hb); (try have hs7 := Rd.below hs7 hb); clear hb; ((try clear k0 k1 k2 k3 k4); have k0 := hE.k0; have k1 := hE.k1; have k2 := hE.k2; have k3 := hE.k3; have k4 := hE.k4; dsimp only at k0 k1 k2 k3 k4))
    go_wp2_with (fail)
    refine (samecmp_any _ _ _ _ _ hs6 hs7).mono ?_
    rintro e WS ⟨b, rfl, hb1, hb⟩
    obtain rfl : b = true := hb1.2 rfl
    clear hb1 hs6
    (have hE := hE.below hb; (try have hva := Rd.below hva hb); (try have hvt := Rd.below hvt hb); (try have hV := hV.below hb); (try have hA := Rd.below hA hb); (try have hB := Rd.below hB hb); (try have hP := Rd.below hP hb); (try have hx1 := Rd.below hx1 hb); (try have hx2 := Rd.below hx2 hb); (try have hs1 := Rd.below hs1 hb); (try have hs2 := Rd.below hs2 hb); (try have hs3 := Rd.below hs3 hb); (try have hs4 := Rd.below hs4 hb); (try have hs5 := Rd.below hs5 hb); (try have hs6 := Rd.below hs6 hb); (try have hs7 := Rd.below hs7 hb); clear hb; ((try clear k0 k1 k2 k3 k4); have k0 := hE.k0; have k1 := hE.k1; have k2 := hE.k2; have k3 := hE.k3; have k4 := hE.k4; dsimp only at k0 k1 k2 k3 k4))
    go_wp2_with (fail)
    refine (samecmp_any _ _ _ _ _ hs4 hs7).mono ?_
    rintro e WS ⟨b, rfl, hb1, hb⟩
    obtain rfl : b = true := hb1.2 rfl
    clear hb1 hs4 hs7
    (have hE := hE.below hb; (try have hva := Rd.below hva hb); (try have hvt := Rd.below hvt hb); (try have hV := hV.below hb); (try have hA := Rd.below hA hb); (try have hB := Rd.below hB hb); (try have hP := Rd.below hP hb); (try have hx1 := Rd.below hx1 hb); (try have hx2 := Rd.below hx2 hb); (try have hs1 := Rd.below hs1 hb); (try have hs2 := Rd.below hs2 hb); (try have hs3 := Rd.below hs3 hb); (try have hs4 := Rd.below hs4 hb); (try have hs5 := Rd.below hs5 hb); (try have hs6 := Rd.below hs6 hb); (try have hs7 := Rd.below hs7 hb); clear hb; ((try clear k0 k1 k2 k3 k4); have k0 := hE.k0; have k1 := hE.k1; have k2 := hE.k2; have k3 := hE.k3; have k4 := hE.k4; dsimp only at k0 k1 k2 k3 k4))
    (go_wp2_with (fail); refine (wakes_any _ hE.glob).mono ?_; rintro e W2 ⟨rfl, hb⟩; go_wp2; go_ret; exact ⟨rfl, hE.base.trans (hb.mono hE.base.size)⟩)
end Go.Proofs.YtjkmdpejcgepkaaGreatDoor
