/- The reference's small tests; all paragraphs of a volume. -/
import Derived.Test.YtjkmdpejcgepkaaGreatDoorC4
namespace Go.Proofs.YtjkmdpejcgepkaaGreatDoor
open Go.RowKit
theorem rin_any (n lo hi : Int) (w : World) :
    Calls Tryz.prog 72 #[.int .i64 n, .int .i64 lo, .int .i64 hi] w fun e w' => e = .returned (.bool (withinB n lo hi)) ∧ w = w' := by
  unfold withinB
  by_cases h1 : lo ≤ n
  · go_enter Tryz.func72, Tryz.ntmps72
    go_wp2
    go_ret
    simp [h1]
  · go_enter Tryz.func72, Tryz.ntmps72
    go_wp2
    go_ret
    simp; omega
set_option maxHeartbeats 1000000 in
theorem rtext_any (s : ByteArray) (w : World) (hs : s.size ≤ 1000000) : Calls Tryz.prog 73 #[.string s] w fun e w' => e = .returned (.bool (textB s)) ∧ w = w' := by
  have R : Hid (textB s = (withinB s.size 1 200 && s.data.toList.all plainB)) := Lib.hid rfl
  generalize textB s = r at R ⊢
  go_enter Tryz.func73, Tryz.ntmps73
  go_wp2
  go_loop [3] (fun i => ∃ k : Nat, k ≤ s.size ∧ i = .int .i64 k ∧ Aside (∀ j (_ : j < s.size), j < k → plainB s[j] = true)) (fun i => s.size - (intOf i).toNat)
  case atStart => exact ⟨0, Nat.zero_le _, rfl, fun j _ h => absurd h (Nat.not_lt_zero _)⟩
  case round =>
    obtain ⟨k, hk, rfl, A1⟩ := hrel
    have HA := Lib.hid A1.out
    clear A1
    by_cases hlt : k < s.size
    · have hm : s[k] ∈ s.data.toList := by
        have : s[k] = s.data.toList[k]'(by simpa using hlt) := by simp [ByteArray.getElem_eq_getElem_data]
        rw [this]; exact List.getElem_mem _
      have HB : Hid (plainB s[k] = false → r = false) := Lib.hid fun h => by
        rw [R.out, List.all_eq_false.2 ⟨_, hm, by simp [h]⟩, Bool.and_false]
      have HC : Hid (plainB s[k] = true → ∀ j (_ : j < s.size), j < k + 1 → plainB s[j] = true) := Lib.hid fun h j hj hjk => by
        by_cases e : j = k
        · subst e; exact h
        · exact HA.out j hj (by omega)
      have HP : Hid (plainB s[k] = decide (32 ≤ (s[k].toNat : Int) ∧ (s[k].toNat : Int) ≤ 126)) := Lib.hid rfl
      clear hm
      by_cases h1 : (s[k].toNat : Int) < 32
      · have H := Lib.hid (HB.out (by rw [HP.out]; simp; omega))
        go_wp2
        go_ret
        exact ⟨ret_bool H.out.symm, rfl⟩
      · by_cases h2 : 126 < (s[k].toNat : Int)
        · have H := Lib.hid (HB.out (by rw [HP.out]; simp; omega))
          go_wp2
          go_ret
          exact ⟨ret_bool H.out.symm, rfl⟩
        · have H := Lib.hid (HC.out (by rw [HP.out]; simp; omega))
          go_wp2
          go_round
          case rel => exact ⟨k + 1, by omega, by go_num, H.out⟩
          case measure => simp [intOf]; omega
    · have hall : s.data.toList.all plainB = true := by
        rw [List.all_eq_true]
        intro c hc
        obtain ⟨j, hj, rfl⟩ := List.mem_iff_getElem.1 hc
        have hj' : j < s.size := by simpa using hj
        have : s[j] = s.data.toList[j] := by simp [ByteArray.getElem_eq_getElem_data]
        rw [← this]; exact HA.out j hj' (by omega)
      have H := Lib.hid (show r = withinB s.size 1 200 by rw [R.out, hall, Bool.and_true])
      clear hall HA R
      go_wp2_with (first | (go_at_call 72; refine (rin_any _ _ _ _).mono ?_; rintro e w' ⟨rfl, rfl⟩))
      go_ret
      exact ⟨ret_bool H.out.symm, rfl⟩
theorem Tryz.infoRPara : (Tryz.prog.info? 50).map (fun i => (i.zero, i.size, i.bytes)) = some (some (.agg #[.int .i64 0, .string ⟨#[]⟩]), 2, 24) := by kernel_rfl
def RParasPost (w : World) (xs : List Para) (e : Ending) (w' : World) : Prop := ∃ v, e = .returned v ∧ Own EP 50 w' w.heap.size v xs ∧ Below w.heap.size w w'
set_option maxHeartbeats 1000000 in
theorem rall_any (v : Value) (x : Vol) (w : World) (hv : IsVol w v x) (hs : x.small) : Calls Tryz.prog 71 #[v] w (RParasPost w x.paras) := by
  obtain ⟨sv, rfl, A, c, rfl, hc, hm, hr⟩ := hv
  obtain ⟨n0, n1, n2, n3, ps⟩ := x
  have hps : ps.length ≤ 100 ∧ ∀ p ∈ ps, p.paras.length ≤ 1000 := ⟨hs.1, fun p hp => (hs.2 p hp).1⟩
  clear hs
  dsimp only [Vol.val] at hc hm hr ⊢
  show Calls _ _ _ _ (RParasPost w (ps.flatMap (·.paras)))
  have hB1 : Below w.heap.size w (w.alloc (.cells #[.int .i64 n0, .int .i64 n1, .int .i64 n2, .int .i64 n3, .slice A ps.length c] 24)) := (Below.refl _ _).alloc (Nat.le_refl _) _
  have hl : ps.length ≤ 100 := hps.1
  go_enter Tryz.func71, Tryz.ntmps71
  go_wp2
  go_loopg [3, 4] ps.length (fun gg s3 s4 wr => ∃ kk : Nat, kk ≤ ps.length ∧ ps.length - kk ≤ gg ∧ s4 = .int .i64 kk ∧ Aside (Below w.heap.size w wr ∧ Below (w.heap.size + 1) (w.alloc (.cells #[.int .i64 n0, .int .i64 n1, .int .i64 n2, .int .i64 n3, .slice A ps.length c] 24)) wr ∧ Own EP 50 wr (w.heap.size + 1) s3 ((ps.take kk).flatMap (·.paras))))
  case atStart => exact ⟨0, Nat.zero_le _, by omega, rfl, hB1, Below.refl _ _, Own.nil _ _ _ _⟩
  case round =>
    obtain ⟨kk, hkk, hg, rfl, A1⟩ := hrel
    have hBw := A1.out.2.1
    have hsz : w.heap.size + 1 ≤ wr.heap.size := by have h := hBw.size; rw [World.size_alloc] at h; exact h
    have hw0 : wr.cell? ⟨w.heap.size, 4, none⟩ = some (.slice A ps.length c) := by
      rw [hBw.cell (p := ⟨w.heap.size, 4, none⟩) (by simp)]; simp [go_sem]
    by_cases hlt : kk < ps.length
    · obtain ⟨b, off, rfl, hb, hr1⟩ := hr (by omega)
      clear hr
      obtain ⟨d1, pv, d2, d3⟩ := (hr1.below hb A1.out.1) kk hlt
      clear hr1
      have hO := A1.out.2.2
      have hpl : ps[kk].paras.length ≤ 1000 := hps.2 _ (List.getElem_mem hlt)
      have hfl := take_paras_le ps kk hl hps.2
      have hts := Lib.hid (take_paras_succ ps kk hlt)
      have AB : Aside (Below w.heap.size w wr ∧ Below (w.heap.size + 1) (w.alloc (.cells #[.int .i64 n0, .int .i64 n1, .int .i64 n2, .int .i64 n3, .slice (some ⟨b, off, none⟩) ps.length c] 24)) wr) := ⟨A1.out.1, hBw⟩
      clear A1 hBw hps hB1
      generalize (ps.take kk).flatMap (·.paras) = l0 at hts hO hfl
      generalize ps[kk].paras = p1 at hts d3 hpl
      generalize ps[kk].day = dd at d1
      obtain ⟨A2, c2, rfl, -⟩ := id d3
      have hbase : w.heap.size + 1 ≤ wr.heap.size := hsz
      go_wp2_with (at_builtin; refine wp_append_rd EP (w.heap.size + 1) rfl _ _ 96 50 _ 24 rfl Tryz.underlying96 Tryz.infoRPara rfl (by decide) u3 _ l0 p1 rfl rfl hO d3 hbase (by omega) ?_; intro v1 w1 hO1 hg1 hb1 hat1)
      go_roundg (ps.length - (kk + 1))
      case measure => omega
      case rel =>
        exact ⟨kk + 1, by omega, by omega, by go_num, AB.out.1.trans (hb1.mono (by omega)), AB.out.2.trans hb1, by rw [hts.out]; exact hO1⟩
    · have : kk = ps.length := by omega
      subst this
      have A2 := A1.out
      clear A1 hr hB1 hps hBw
      go_wp2
      go_ret
      refine ⟨_, rfl, ?_, A2.1⟩
      have h := A2.2.2
      rw [List.take_length] at h
      exact h.lower (by omega)
end Go.Proofs.YtjkmdpejcgepkaaGreatDoor
/- An erratum by itself, as the reference has it. -/
namespace Go.Proofs.YtjkmdpejcgepkaaGreatDoor
open Go.RowKit
set_option maxHeartbeats 1000000 in
theorem right_any (x : Err) (W : World) (hs : x.text.size ≤ 1000000) : Calls Tryz.prog 74 #[x.val] W fun e w' => e = .returned (.bool x.ok) ∧ Below W.heap.size W w' := by
  obtain ⟨n, d, k, a, s, m⟩ := x
  have hs' : s.size ≤ 1000000 := hs
  clear hs
  show Calls _ _ #[.agg #[.int .i64 n, .int .i64 d, .int .u8 k, .int .i64 a, .string s, .int .i64 m]] _ _
  have hB : Below W.heap.size W (W.alloc (.cells #[.int .i64 n, .int .i64 d, .int .u8 k, .int .i64 a, .string s, .int .i64 m] 27)) := (Below.refl _ _).alloc (Nat.le_refl _) _
  have R : (Err.mk n d k a s m).ok = ((withinB n 1 999 && withinB d 0 99999 && withinB a 1 999) && (if k = 0 then textB s && m == 0 else if k = 1 then s.toList.isEmpty && m == 0 else if k = 2 then textB s && withinB m 1 999 else false)) := rfl
  generalize (Err.mk n d k a s m).ok = r at R ⊢
  cases h1 : withinB n 1 999
  · have H := Lib.hid (show r = false by rw [R]; simp [h1]); clear R
    go_enter Tryz.func74, Tryz.ntmps74; go_wp2_with (first | (go_at_call 72; refine (rin_any _ _ _ _).mono ?_; rintro e w' ⟨rfl, rfl⟩) | (go_at_call 73; refine (rtext_any _ _ hs').mono ?_; rintro e w' ⟨rfl, rfl⟩)); go_ret
    exact ⟨ret_bool H.out.symm, hB⟩
  cases h2 : withinB d 0 99999
  · have H := Lib.hid (show r = false by rw [R]; simp [h2]); clear R
    go_enter Tryz.func74, Tryz.ntmps74; go_wp2_with (first | (go_at_call 72; refine (rin_any _ _ _ _).mono ?_; rintro e w' ⟨rfl, rfl⟩) | (go_at_call 73; refine (rtext_any _ _ hs').mono ?_; rintro e w' ⟨rfl, rfl⟩)); go_ret
    exact ⟨ret_bool H.out.symm, hB⟩
  cases h3 : withinB a 1 999
  · have H := Lib.hid (show r = false by rw [R]; simp [h3]); clear R
    go_enter Tryz.func74, Tryz.ntmps74; go_wp2_with (first | (go_at_call 72; refine (rin_any _ _ _ _).mono ?_; rintro e w' ⟨rfl, rfl⟩) | (go_at_call 73; refine (rtext_any _ _ hs').mono ?_; rintro e w' ⟨rfl, rfl⟩)); go_ret
    exact ⟨ret_bool H.out.symm, hB⟩
  by_cases k0 : k = 0
  · subst k0
    cases h4 : textB s
    all_goals
      have H := Lib.hid (show r = (textB s && m == 0) by rw [R]; simp [h1, h2, h3]); clear R
      go_enter Tryz.func74, Tryz.ntmps74; go_wp2_with (first | (go_at_call 72; refine (rin_any _ _ _ _).mono ?_; rintro e w' ⟨rfl, rfl⟩) | (go_at_call 73; refine (rtext_any _ _ hs').mono ?_; rintro e w' ⟨rfl, rfl⟩)); go_ret
      exact ⟨ret_bool (by rw [H.out, h4]; simp), hB⟩
  by_cases k1 : k = 1
  · subst k1
    cases h4 : s.toList.isEmpty
    all_goals
      have H := Lib.hid (show r = (s.toList.isEmpty && m == 0) by rw [R]; simp [h1, h2, h3]); clear R
      go_enter Tryz.func74, Tryz.ntmps74; go_wp2_with (first | (go_at_call 72; refine (rin_any _ _ _ _).mono ?_; rintro e w' ⟨rfl, rfl⟩) | (go_at_call 73; refine (rtext_any _ _ hs').mono ?_; rintro e w' ⟨rfl, rfl⟩)); go_ret
      exact ⟨ret_bool (by rw [H.out, h4]; simp), hB⟩
  have e0 : (k == 0) = false := by simpa using k0
  have e1 : (k == 1) = false := by simpa using k1
  by_cases k2 : k = 2
  · subst k2
    cases h4 : textB s
    all_goals
      have H := Lib.hid (show r = (textB s && withinB m 1 999) by rw [R]; simp [h1, h2, h3]); clear R e0 e1
      go_enter Tryz.func74, Tryz.ntmps74; go_wp2_with (first | (go_at_call 72; refine (rin_any _ _ _ _).mono ?_; rintro e w' ⟨rfl, rfl⟩) | (go_at_call 73; refine (rtext_any _ _ hs').mono ?_; rintro e w' ⟨rfl, rfl⟩)); go_ret
      exact ⟨ret_bool (by rw [H.out, h4]; simp), hB⟩
  have e2 : (k == 2) = false := by simpa using k2
  have H := Lib.hid (show r = false by rw [R]; simp [k0, k1, k2]); clear R
  go_enter Tryz.func74, Tryz.ntmps74; go_wp2_with (first | (go_at_call 72; refine (rin_any _ _ _ _).mono ?_; rintro e w' ⟨rfl, rfl⟩) | (go_at_call 73; refine (rtext_any _ _ hs').mono ?_; rintro e w' ⟨rfl, rfl⟩)); go_ret
  exact ⟨ret_bool H.out.symm, hB⟩
end Go.Proofs.YtjkmdpejcgepkaaGreatDoor
