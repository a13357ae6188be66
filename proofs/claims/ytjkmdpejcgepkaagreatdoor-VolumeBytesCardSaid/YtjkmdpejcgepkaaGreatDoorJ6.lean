/- The reference's Parse: what it reads of a citation. -/
import Derived.Test.YtjkmdpejcgepkaaGreatDoorJ5
namespace Go.Proofs.YtjkmdpejcgepkaaGreatDoor
open Go.RowKit
theorem TakeIs.cast {s t : ByteArray} {a r a' r' : Int} (h : TakeIs s t a r) (e1 : a = a') (e2 : r = r') : TakeIs s t a' r' := e1 ▸ e2 ▸ h
theorem NumIs.cast {s : ByteArray} {a n r a' r' : Int} (h : NumIs s a n r) (e1 : a = a') (e2 : r = r') : NumIs s a' n r' := e1 ▸ e2 ▸ h
theorem ba_list (s : ByteArray) {l : List UInt8} (h : s.data.toList = l) : s.size = l.length := by rw [← h, ba_len]
theorem itoa_head {n : Int} (h : 0 ≤ n) (t : List UInt8) : ∃ c r, Lib.itoa n ++ t = c :: r ∧ digB c := by
  obtain ⟨u, rfl⟩ := Int.eq_ofNat_of_zero_le h
  have hi : Lib.itoa (u : Int) = Lib.decDigits u := by unfold Lib.itoa; rw [if_neg (by omega)]; simp
  rw [hi]
  have hd := dec_digs u
  cases hc : Lib.decDigits u with
  | nil => exact absurd hc (dec_ne u)
  | cons c r => exact ⟨c, r ++ t, rfl, hd c (by rw [hc]; simp)⟩
theorem chain3 (s t1 t2 : ByteArray) (a b c : Int) (d1 d2 : UInt8) (u1 u2 : List UInt8) (h1 : t1.data.toList = d1 :: u1) (h2 : t2.data.toList = d2 :: u2) (n1 : ¬ digB d1) (n2 : ¬ digB d2) (hs : s.size ≤ 1000)
    (ha : 0 ≤ a ∧ a ≤ 999999) (hb : 0 ≤ b ∧ b ≤ 999999) (hc : 0 ≤ c ∧ c ≤ 999999)
    (he : s.data.toList = sVol ++ (Lib.itoa a ++ t1.data.toList ++ (Lib.itoa b ++ t2.data.toList ++ Lib.itoa c))) :
    ∃ r0 a1 r1 a2 : Int, TakeIs s bVol 0 5 ∧ NumIs s 5 a r0 ∧ TakeIs s t1 r0 a1 ∧ NumIs s a1 b r1 ∧ TakeIs s t2 r1 a2 ∧ NumIs s a2 c s.size ∧ TakeIs s ⟨#[]⟩ s.size s.size := by
  have nd1 : ∀ (l : List UInt8) x r, t1.data.toList ++ l = x :: r → ¬ digB x := fun l x r h => by
    rw [h1, List.cons_append, List.cons.injEq] at h; rw [← h.1]; exact n1
  have nd2 : ∀ (l : List UInt8) x r, t2.data.toList ++ l = x :: r → ¬ digB x := fun l x r h => by
    rw [h2, List.cons_append, List.cons.injEq] at h; rw [← h.1]; exact n2
  have hl := ba_list s he
  have k0 := take_at s bVol [] (Lib.itoa a ++ t1.data.toList ++ (Lib.itoa b ++ t2.data.toList ++ Lib.itoa c)) hs he
  have k1 := num_at s sVol (t1.data.toList ++ (Lib.itoa b ++ t2.data.toList ++ Lib.itoa c)) a hs (by rw [he]; simp) ha.1 ha.2 (nd1 _)
  have k2 := take_at s t1 (sVol ++ Lib.itoa a) (Lib.itoa b ++ t2.data.toList ++ Lib.itoa c) hs (by rw [he]; simp)
  have k3 := num_at s (sVol ++ Lib.itoa a ++ t1.data.toList) (t2.data.toList ++ Lib.itoa c) b hs (by rw [he]; simp) hb.1 hb.2 (nd2 _)
  have k4 := take_at s t2 (sVol ++ Lib.itoa a ++ t1.data.toList ++ Lib.itoa b) (Lib.itoa c) hs (by rw [he]; simp)
  have k5 := num_at s (sVol ++ Lib.itoa a ++ t1.data.toList ++ Lib.itoa b ++ t2.data.toList) [] c hs (by rw [he]; simp) hc.1 hc.2 (fun _ _ h => by cases h)
  have k6 := take_at s ⟨#[]⟩ s.data.toList [] hs (by simp)
  have e5 : ((sVol.length : Nat) : Int) = 5 := rfl
  have z1 := ba_len t1
  have z2 := ba_len t2
  simp only [List.length_append, z1, z2] at k2 k3 k4 k5 k6 hl
  have e6 : (⟨#[]⟩ : ByteArray).size = 0 := rfl
  have e7 : ([] : List UInt8).length = 0 := rfl
  have e8 : s.data.toList.length = s.size := ba_len s
  have e9 : sVol.length = 5 := rfl
  rw [e9] at hl
  refine ⟨5 + (Lib.itoa a).length, 5 + (Lib.itoa a).length + t1.size, 5 + (Lib.itoa a).length + t1.size + (Lib.itoa b).length, 5 + (Lib.itoa a).length + t1.size + (Lib.itoa b).length + t2.size, TakeIs.cast k0 rfl rfl, NumIs.cast k1 rfl rfl, TakeIs.cast k2 ?_ ?_, NumIs.cast k3 ?_ ?_, TakeIs.cast k4 ?_ ?_, NumIs.cast k5 ?_ ?_, TakeIs.cast k6 ?_ ?_⟩
  all_goals (first | rw [e9] | rw [e8] | rw [e8, e6])
  all_goals omega
theorem rparse_spell (s : ByteArray) (q : Int × Int × Int × Int) (hq : okQ q) (he : s.data.toList = spellQ q) (hs : s.size ≤ 1000) (w : World) :
    Calls Tryz.prog 24 #[.string s] w (RefParse w q.1 q.2.1 q.2.2.1 q.2.2.2) := by
  obtain ⟨st, a, b, c⟩ := q
  obtain ⟨h1, ha, hb, hc, hd⟩ := hq
  dsimp only at h1 ha hb hc hd ⊢
  have m0 : manyOf 0 = 3 := rfl
  have m1 : manyOf 1 = 3 := rfl
  have m2 : manyOf 2 = 2 := rfl
  have dd : ∀ t : List UInt8, Lib.itoa b ++ t ≠ [] ∧ ∀ x r, Lib.itoa b ++ t = x :: r → digB x := fun t => by
    obtain ⟨x, r, e, hx⟩ := itoa_head hb.1 t
    rw [e]
    exact ⟨List.cons_ne_nil _ _, fun y r' h => by cases h; exact hx⟩
  rcases h1 with rfl | rfl | ⟨rfl, rfl⟩
  · obtain ⟨r0, a1, r1, a2, k0, k1, k2, k3, k4, k5, k6⟩ := chain3 s bCol bL a b c 44 44 _ _ rfl rfl (by unfold digB; decide) (by unfold digB; decide) hs ha hb hc he
    refine rparse_core s 0 (fun _ k => if k = 0 then 5 else if k = 1 then a1 else if k = 2 then a2 else s.size) (fun _ k => if k = 0 then r0 else if k = 1 then r1 else s.size) (fun _ k => if k = 0 then a else if k = 1 then b else c) w (by decide) ?_ ?_ ?_ ?_ rfl ?_
    · intro st h; obtain rfl : st = 0 := by omega
      exact k0
    · intro st k h hk; obtain rfl : st = 0 := by omega
      rw [m0] at hk
      have : k = 0 ∨ k = 1 ∨ k = 2 := by omega
      rcases this with rfl | rfl | rfl
      · exact k1
      · exact k3
      · exact k5
    · intro st k h hk; obtain rfl : st = 0 := by omega
      rw [m0] at hk
      have : k = 0 ∨ k = 1 ∨ k = 2 := by omega
      rcases this with rfl | rfl | rfl
      · exact k2
      · exact k4
      · exact k6
    · intro st h; omega
    · intro h; exact absurd rfl h
  · obtain ⟨r0, a1, r1, a2, k0, k1, k2, k3, k4, k5, k6⟩ := chain3 s bSep bPar a b c 44 44 _ _ rfl rfl (by unfold digB; decide) (by unfold digB; decide) hs ha hb hc he
    have hday := hd (by decide)
    unfold dayB withinB at hday
    have hda : b ≤ 99999 := by simpa using (of_decide_eq_true hday).2
    have he' : s.data.toList = sVol ++ Lib.itoa a ++ (bSep.data.toList ++ (Lib.itoa b ++ (bPar.data.toList ++ Lib.itoa c))) := by
      rw [he]; show sVol ++ (Lib.itoa a ++ bSep.data.toList ++ (Lib.itoa b ++ bPar.data.toList ++ Lib.itoa c)) = _; simp
    have kx : TakeIs s bCol (5 + (Lib.itoa a).length) (-1) := by
      refine TakeIs.cast (take_not s bCol (sVol ++ Lib.itoa a) _ hs (by decide) he' ?_) ?_ rfl
      · obtain ⟨x, r, e, hx⟩ := itoa_head hb.1 (bPar.data.toList ++ Lib.itoa c)
        rw [e]
        show List.take 7 (44 :: 32 :: x :: r) ≠ [44, 32, 99, 111, 108, 46, 32]
        simp only [List.take_succ_cons]
        intro h
        simp only [List.cons.injEq, true_and] at h
        rw [h.1] at hx
        exact absurd hx (by unfold digB; decide)
      · rw [List.length_append, show sVol.length = 5 from rfl]; omega
    have kn : NumIs s 5 a (5 + (Lib.itoa a).length) := num_at s sVol (bSep.data.toList ++ (Lib.itoa b ++ (bPar.data.toList ++ Lib.itoa c))) a hs (by rw [he']; simp) ha.1 ha.2 (fun x r h => by cases h; unfold digB; decide)
    refine rparse_core s 1 (fun st k => if st = 0 then (if k = 0 then 5 else -1) else if k = 0 then 5 else if k = 1 then a1 else if k = 2 then a2 else s.size) (fun st k => if st = 0 then (if k = 0 then 5 + (Lib.itoa a).length else -1) else if k = 0 then r0 else if k = 1 then r1 else s.size) (fun st k => if st = 0 then (if k = 0 then a else 0) else if k = 0 then a else if k = 1 then b else c) w (by decide) ?_ ?_ ?_ ?_ rfl ?_
    · intro st h
      have : st = 0 ∨ st = 1 := by omega
      rcases this with rfl | rfl
      · exact k0
      · exact k0
    · intro st k h hk
      have : st = 0 ∨ st = 1 := by omega
      rcases this with rfl | rfl
      · rw [m0] at hk
        have : k = 0 ∨ k = 1 ∨ k = 2 := by omega
        rcases this with rfl | rfl | rfl
        · exact kn
        · exact num_neg s
        · exact num_neg s
      · rw [m1] at hk
        have : k = 0 ∨ k = 1 ∨ k = 2 := by omega
        rcases this with rfl | rfl | rfl
        · exact k1
        · exact k3
        · exact k5
    · intro st k h hk
      have : st = 0 ∨ st = 1 := by omega
      rcases this with rfl | rfl
      · rw [m0] at hk
        have : k = 0 ∨ k = 1 ∨ k = 2 := by omega
        rcases this with rfl | rfl | rfl
        · exact kx
        · exact take_neg s _
        · exact take_neg s _
      · rw [m1] at hk
        have : k = 0 ∨ k = 1 ∨ k = 2 := by omega
        rcases this with rfl | rfl | rfl
        · exact k2
        · exact k4
        · exact k6
    · intro st h; obtain rfl : st = 0 := by omega
      rfl
    · intro _; exact hda
  · have hday := hd (by decide)
    unfold dayB withinB at hday
    have hda : b ≤ 99999 := by simpa using (of_decide_eq_true hday).2
    have he' : s.data.toList = Lib.itoa a ++ (bAt.data.toList ++ Lib.itoa b) := by
      rw [he]; show Lib.itoa a ++ bAt.data.toList ++ Lib.itoa b = _; simp
    have hl := ba_list s he'
    have z1 := ba_len bAt
    simp only [List.length_append, z1] at hl
    have kv : TakeIs s bVol 0 (-1) := by
      refine take_not s bVol [] (Lib.itoa a ++ (bAt.data.toList ++ Lib.itoa b)) hs (by decide) (by rw [he']; rfl) ?_
      obtain ⟨x, r, e, hx⟩ := itoa_head ha.1 (bAt.data.toList ++ Lib.itoa b)
      rw [e]
      show List.take 5 (x :: r) ≠ [118, 111, 108, 46, 32]
      simp only [List.take_succ_cons]
      intro h
      simp only [List.cons.injEq] at h
      rw [h.1] at hx
      exact absurd hx (by unfold digB; decide)
    have k0 : TakeIs s ⟨#[]⟩ 0 0 := take_at s ⟨#[]⟩ [] s.data.toList hs rfl
    have k1 : NumIs s 0 a ((Lib.itoa a).length) := NumIs.cast (num_at s [] (bAt.data.toList ++ Lib.itoa b) a hs he' ha.1 ha.2 (fun x r h => by cases h; unfold digB; decide)) rfl (by simp)
    have k2 : TakeIs s bAt ((Lib.itoa a).length) ((Lib.itoa a).length + bAt.size) := take_at s bAt (Lib.itoa a) (Lib.itoa b) hs he'
    have k3 : NumIs s ((Lib.itoa a).length + bAt.size) b s.size := NumIs.cast (num_at s (Lib.itoa a ++ bAt.data.toList) [] b hs (by rw [he']; simp) hb.1 hb.2 (fun _ _ h => by cases h)) (by rw [List.length_append, z1]; omega) (by rw [List.length_append, z1]; omega)
    have k4 : TakeIs s ⟨#[]⟩ s.size s.size := TakeIs.cast (take_at s ⟨#[]⟩ s.data.toList [] hs (by simp)) (by rw [ba_len]) (by rw [ba_len]; rfl)
    refine rparse_core s 2 (fun st k => if st = 2 then (if k = 0 then 0 else if k = 1 then (Lib.itoa a).length + bAt.size else s.size) else -1) (fun st k => if st = 2 then (if k = 0 then (Lib.itoa a).length else s.size) else -1) (fun st k => if st = 2 then (if k = 0 then a else b) else 0) w (by decide) ?_ ?_ ?_ ?_ rfl ?_
    · intro st h
      have : st = 0 ∨ st = 1 ∨ st = 2 := by omega
      rcases this with rfl | rfl | rfl
      · exact kv
      · exact kv
      · exact k0
    · intro st k h hk
      have : st = 0 ∨ st = 1 ∨ st = 2 := by omega
      rcases this with rfl | rfl | rfl
      · exact num_neg s
      · exact num_neg s
      · rw [m2] at hk
        have : k = 0 ∨ k = 1 := by omega
        rcases this with rfl | rfl
        · exact k1
        · exact k3
    · intro st k h hk
      have : st = 0 ∨ st = 1 ∨ st = 2 := by omega
      rcases this with rfl | rfl | rfl
      · exact take_neg s _
      · exact take_neg s _
      · rw [m2] at hk
        have : k = 0 ∨ k = 1 := by omega
        rcases this with rfl | rfl
        · exact k2
        · exact k4
    · intro st h
      have : st = 0 ∨ st = 1 := by omega
      rcases this with rfl | rfl <;> rfl
    · intro _; exact hda
end Go.Proofs.YtjkmdpejcgepkaaGreatDoor
