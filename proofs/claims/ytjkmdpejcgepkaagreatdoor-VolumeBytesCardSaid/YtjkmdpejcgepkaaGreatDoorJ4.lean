/- The reference's take and number. -/
import Derived.Test.YtjkmdpejcgepkaaGreatDoorG3
namespace Go.Proofs.YtjkmdpejcgepkaaGreatDoor
open Go.RowKit
def TakeIs (s t : ByteArray) (a r : Int) : Prop := ∀ w : World, Calls Tryz.prog 42 #[.string s, .int .i64 a, .string t] w fun e w' => e = .returned (.int .i64 r) ∧ w = w'
theorem take_neg (s t : ByteArray) : TakeIs s t (-1) (-1) := fun w => by
  go_enter Tryz.func42, Tryz.ntmps42
  go_wp2
  go_ret
  exact ⟨rfl, rfl⟩
theorem take_long (s t : ByteArray) (n : Nat) (h : s.size < n + t.size) (ht : t.size ≤ 1000) (hn : n ≤ 1000) : TakeIs s t n (-1) := fun w => by
  have h1 : (0 : Int) ≤ (n : Int) := by omega
  have h2 : (s.size : Int) < (n : Int) + (t.size : Int) := by omega
  go_enter Tryz.func42, Tryz.ntmps42
  go_wp2
  go_ret
  exact ⟨rfl, rfl⟩
theorem take_hit (s t : ByteArray) (n : Nat) (h : n + t.size ≤ s.size) (hs : s.size ≤ 1000) (he : (s.data.toList.drop n).take t.size = t.data.toList) : TakeIs s t n ((n : Int) + (t.size : Int)) := fun w => by
  have h1 : (0 : Int) ≤ (n : Int) := by omega
  have h2 : (n : Int) + (t.size : Int) ≤ (s.size : Int) := by omega
  have h3 : decide ((n : Int) < 0) = false := by simp
  have h4 : decide ((s.size : Int) < (n : Int) + (t.size : Int)) = false := by simp; omega
  have hx : ((s.extract n (n + t.size)).toList == t.toList) = true := by rw [Lib.extract_toList, Lib.toList_data, Nat.add_sub_cancel_left, he]; simp
  clear he
  go_enter Tryz.func42, Tryz.ntmps42
  go_wp2
  go_ret
  exact ⟨rfl, rfl⟩
theorem take_miss (s t : ByteArray) (n : Nat) (h : n + t.size ≤ s.size) (hs : s.size ≤ 1000) (he : (s.data.toList.drop n).take t.size ≠ t.data.toList) : TakeIs s t n (-1) := fun w => by
  have h1 : (0 : Int) ≤ (n : Int) := by omega
  have h2 : (n : Int) + (t.size : Int) ≤ (s.size : Int) := by omega
  have h3 : decide ((n : Int) < 0) = false := by simp
  have h4 : decide ((s.size : Int) < (n : Int) + (t.size : Int)) = false := by simp; omega
  have hx : ((s.extract n (n + t.size)).toList == t.toList) = false := by rw [Lib.extract_toList, Lib.toList_data, Nat.add_sub_cancel_left]; simpa using he
  clear he
  go_enter Tryz.func42, Tryz.ntmps42
  go_wp2
  go_ret
  exact ⟨rfl, rfl⟩
theorem ba_len (s : ByteArray) : s.data.toList.length = s.size := by rw [Array.length_toList]; rfl
/-- take at a place: by the text that stands there -/
theorem take_at (s t : ByteArray) (p q : List UInt8) (hs : s.size ≤ 1000) (he : s.data.toList = p ++ (t.data.toList ++ q)) : TakeIs s t p.length ((p.length : Int) + (t.size : Int)) := by
  have hl : s.size = p.length + (t.size + q.length) := by
    have h := congrArg List.length he
    rw [ba_len, List.length_append, List.length_append, ba_len] at h
    exact h
  refine take_hit s t p.length (by omega) hs ?_
  rw [he, List.drop_left' rfl, List.take_left' (ba_len t)]
theorem take_not (s t : ByteArray) (p r : List UInt8) (hs : s.size ≤ 1000) (ht : t.size ≤ 1000) (he : s.data.toList = p ++ r) (hn : r.take t.size ≠ t.data.toList) : TakeIs s t p.length (-1) := by
  have hl : s.size = p.length + r.length := by
    have h := congrArg List.length he
    rw [ba_len, List.length_append] at h
    exact h
  by_cases h : p.length + t.size ≤ s.size
  · refine take_miss s t p.length h hs ?_
    rw [he, List.drop_left' rfl]
    exact hn
  · exact take_long s t p.length (by omega) ht (by omega)
def NumIs (s : ByteArray) (a n r : Int) : Prop := ∀ w : World, Calls Tryz.prog 43 #[.string s, .int .i64 a] w fun e w' => e = .returned (.tuple #[.int .i64 n, .int .i64 r]) ∧ w = w'
theorem num_neg (s : ByteArray) : NumIs s (-1) 0 (-1) := fun w => by
  go_enter Tryz.func43, Tryz.ntmps43
  go_wp2
  go_ret2
  exact ⟨rfl, rfl⟩
def valOf (l : List UInt8) : Int := l.foldl (fun v c => 10 * v + ((c.toNat : Int) - 48)) 0
theorem valOf_snoc (l : List UInt8) (c : UInt8) : valOf (l ++ [c]) = 10 * valOf l + ((c.toNat : Int) - 48) := by simp [valOf]
theorem valOf_dec (u : Nat) : valOf (Lib.decDigits u) = u := by
  induction u using Nat.strongRecOn with
  | _ u ih =>
    rw [Lib.decDigits]
    split
    · rename_i h
      have := valOf_snoc [] (UInt8.ofNat (48 + u))
      rw [ofNat_dig h] at this
      simp only [List.nil_append] at this
      rw [this]
      simp [valOf]
      omega
    · rename_i h
      rw [valOf_snoc, ih (u / 10) (by omega), ofNat_dig (Nat.mod_lt _ (by decide))]
      omega
theorem dec_len (u : Nat) (h : u ≤ 999999) : (Lib.decDigits u).length ≤ 6 := by
  rw [Lib.decDigits_length]
  have step : ∀ (v k : Nat), (v / 10 < 10 ^ k → Lib.nDigits (v / 10) ≤ k + 1) → v < 10 ^ (k + 1) → Lib.nDigits v ≤ k + 2 := fun v k hk hv => by
    by_cases h1 : v < 10
    · rw [Lib.nDigits_small h1]; omega
    · rw [Lib.nDigits_big h1]
      have := hk (by rw [Nat.pow_succ] at hv; omega)
      omega
  have h0 : ∀ v, v < 10 → Lib.nDigits v ≤ 1 := fun v hv => by rw [Lib.nDigits_small hv]; exact Nat.le_refl _
  have big : ∀ (v k : Nat), 1 ≤ k → v < 10 ^ k → Lib.nDigits v ≤ k := by
    intro v k
    induction k generalizing v with
    | zero => intro h; omega
    | succ k ih =>
      intro _ hv
      by_cases h1 : v < 10
      · rw [Lib.nDigits_small h1]; omega
      · rw [Lib.nDigits_big h1]
        by_cases hk : k = 0
        · subst hk; simp at hv; omega
        · have := ih (v / 10) (by omega) (by rw [Nat.pow_succ] at hv; omega)
          omega
  exact big u 6 (by decide) (by omega)
theorem dec_zero (u : Nat) (c : UInt8) (r : List UInt8) (h : Lib.decDigits u = c :: r) (hc : c.toNat = 48) : r = [] := by
  have key : ∀ u c r, Lib.decDigits u = c :: r → c.toNat = 48 → u = 0 := by
    intro u
    induction u using Nat.strongRecOn with
    | _ u ih =>
      intro c r h hc
      rw [Lib.decDigits] at h
      split at h
      · rename_i h1
        rw [List.cons.injEq] at h
        rw [← h.1, ofNat_dig h1] at hc
        omega
      · rename_i h1
        exfalso
        cases hd : Lib.decDigits (u / 10) with
        | nil => exact dec_ne _ hd
        | cons c' r' =>
          rw [hd, List.cons_append, List.cons.injEq] at h
          obtain rfl := h.1
          have := ih (u / 10) (by omega) c' r' hd hc
          omega
  have h0 := key u c r h hc
  subst h0
  rw [Lib.decDigits_one (by decide)] at h
  rw [List.cons.injEq] at h
  exact h.2.symm
theorem num_core (s : ByteArray) (a E : Nat) (V : Nat → Int) (hs : s.size ≤ 1000) (haE : a < E) (hE : E ≤ s.size) (h6 : E ≤ a + 6) (hV0 : V a = 0)
    (hstep : ∀ m, a ≤ m → ∀ h2 : m < E, digB (s[m]'(by omega)) ∧ V (m + 1) = 10 * V m + (((s[m]'(by omega)).toNat : Int) - 48))
    (hb : ∀ k, 0 ≤ V k ∧ V k ≤ 10000000) (hz : (s[a]'(by omega)).toNat = 48 → E = a + 1) (hq : ∀ h : E < s.size, ¬ digB (s[E]'h)) : NumIs s a (V E) E := fun w => by
  have HQ := Lib.hid hq
  have HB := Lib.hid hstep
  have HVB := Lib.hid hb
  have HZ := Lib.hid hz
  have HV0 := Lib.hid hV0
  clear hb hq hz hstep hV0
  have a0 : ¬ ((a : Int) < 0) := by omega
  go_enter Tryz.func43, Tryz.ntmps43
  go_wp2
  go_loop [6, 7] (fun n e => ∃ m : Nat, a ≤ m ∧ m ≤ E ∧ e = .int .i64 m ∧ n = .int .i64 (V m)) (fun _ e => E - (intOf e).toNat)
  case atStart => exact ⟨a, Nat.le_refl _, by omega, rfl, by rw [HV0.out]⟩
  case round =>
    obtain ⟨m, hm1, hm2, rfl, rfl⟩ := hrel
    have hvm := HVB.out m
    by_cases hlt : m < E
    · have hms : m < s.size := by omega
      obtain ⟨b1, b2⟩ := HB.out m hm1 hlt
      unfold digB at b1
      have B2 := Lib.hid b2
      clear b2
      generalize V m = vv at hvm B2
      have c1 : (48 : Int) ≤ (s[m].toNat : Int) := by omega
      have c2 : (s[m].toNat : Int) ≤ 57 := by omega
      have c3 : (m : Int) - (a : Int) < 7 := by omega
      go_wp2
      go_ways
      refine ⟨⟨m + 1, by omega, by omega, rfl, by rw [B2.out]⟩, ?_⟩
      simp only [intOf]
      omega
    · obtain rfl : m = E := by omega
      have hzz : (s[a]'(by omega)).toNat = 48 → (m : Int) - (a : Int) ≤ 1 := fun h => by have := HZ.out h; omega
      have hz2 : (decide ((s[a]'(by omega)).toNat = 48) && decide ((m : Int) - (a : Int) > 1)) = false := by
        rw [Bool.and_eq_false_iff]
        by_cases h : (s[a]'(by omega)).toNat = 48
        · exact .inr (by have := hzz h; simp; omega)
        · exact .inl (by simpa using h)
      have d1 : ¬ ((m : Int) = (a : Int)) := by omega
      have d1b : ((m : Int) == (a : Int)) = false := by simpa using d1
      have d2 : ¬ ((m : Int) - (a : Int) > 6) := by omega
      have d3 : (m : Int) - (a : Int) ≤ 6 := by omega
      have ha : a < s.size := by omega
      have hc : s[a].toNat < 256 := UInt8.toNat_lt _
      by_cases hsz : m < s.size
      · have nq := HQ.out hsz
        unfold digB at nq
        have hc2 : s[m].toNat < 256 := UInt8.toNat_lt _
        by_cases h48 : (48 : Nat) ≤ s[m].toNat
        · have h57 : ¬ (s[m].toNat ≤ 57) := fun h => nq ⟨h48, h⟩
          go_wp2
          go_ways
          all_goals first | (exfalso; have := hzz (by omega); omega) | (go_ret2; exact ⟨rfl, rfl⟩)
        · go_wp2
          go_ways
          all_goals first | (exfalso; have := hzz (by omega); omega) | (go_ret2; exact ⟨rfl, rfl⟩)
      · have hsz2 : (s.size : Int) ≤ (m : Int) := by omega
        clear hsz
        go_wp2
        go_ways
        all_goals first | (exfalso; have := hzz (by omega); omega) | (go_ret2; exact ⟨rfl, rfl⟩)
/-- a number at a place: by the digits that stand there -/
theorem num_at (s : ByteArray) (p q : List UInt8) (n : Int) (hs : s.size ≤ 1000) (he : s.data.toList = p ++ (Lib.itoa n ++ q)) (h0 : 0 ≤ n) (h1 : n ≤ 999999) (hq : ∀ c r, q = c :: r → ¬ digB c) :
    NumIs s p.length n ((p.length : Int) + ((Lib.itoa n).length : Int)) := fun w => by
  obtain ⟨u, rfl⟩ := Int.eq_ofNat_of_zero_le h0
  have hi : Lib.itoa (u : Int) = Lib.decDigits u := by unfold Lib.itoa; rw [if_neg (by omega)]; simp
  rw [hi] at he ⊢
  have hv := valOf_dec u
  have hd := dec_digs u
  have hl6 := dec_len u (by omega)
  have hz := dec_zero u
  have hne := dec_ne u
  clear hi h0 h1
  generalize Lib.decDigits u = D at he hv hd hl6 hz hne
  have hpos : 0 < D.length := List.length_pos_iff.2 hne
  have hl : s.size = p.length + (D.length + q.length) := by
    have h := congrArg List.length he
    rw [ba_len, List.length_append, List.length_append] at h
    exact h
  have hget : ∀ j (hj : j < D.length), s[p.length + j]'(by omega) = D[j] := fun j hj => by
    have e : s[p.length + j]'(by omega) = s.data.toList[p.length + j]'(by rw [ba_len]; omega) := by rw [Array.getElem_toList]; rfl
    rw [e]
    simp only [he]
    rw [List.getElem_append_right (by omega), List.getElem_append_left (by omega)]
    simp
  have hgetq : ∀ (hj : p.length + D.length < s.size), ∃ r, q = (s[p.length + D.length]'hj) :: r := fun hj => by
    have hq0 : 0 < q.length := by omega
    have e : s[p.length + D.length]'hj = q[0] := by
      have e : s[p.length + D.length]'hj = s.data.toList[p.length + D.length]'(by rw [ba_len]; omega) := by rw [Array.getElem_toList]; rfl
      rw [e]
      simp only [he]
      rw [List.getElem_append_right (by omega), List.getElem_append_right (by omega)]
      congr 1
      omega
    rw [e]
    cases q with
    | nil => simp at hq0
    | cons c r => exact ⟨r, rfl⟩
  have hbd : ∀ m (h1 : p.length ≤ m) (h2 : m < p.length + D.length), digB (s[m]'(by omega)) ∧ valOf (D.take (m + 1 - p.length)) = 10 * valOf (D.take (m - p.length)) + (((s[m]'(by omega)).toNat : Int) - 48) := fun m h1 h2 => by
    have e : s[m]'(by omega) = D[m - p.length] := by
      have h := hget (m - p.length) (by omega)
      simp only [show p.length + (m - p.length) = m by omega] at h
      exact h
    rw [e]
    refine ⟨hd _ (List.getElem_mem (by omega)), ?_⟩
    rw [show m + 1 - p.length = (m - p.length) + 1 by omega, List.take_succ_eq_append_getElem (by omega), valOf_snoc]
  have hvb : ∀ k, 0 ≤ valOf (D.take k) ∧ valOf (D.take k) ≤ 10000000 := fun k => by
    have key : ∀ (l : List UInt8) (a : Int) (k : Nat), (∀ c ∈ l, digB c) → 0 ≤ a → a + 1 ≤ (10 : Int) ^ k → 0 ≤ l.foldl (fun v c => 10 * v + ((c.toNat : Int) - 48)) a ∧ l.foldl (fun v c => 10 * v + ((c.toNat : Int) - 48)) a + 1 ≤ (10 : Int) ^ (k + l.length) := by
      intro l
      induction l with
      | nil => intro a k _ h1 h2; exact ⟨h1, h2⟩
      | cons c l ih =>
        intro a k hl h1 h2
        have h3 := hl c (by simp)
        unfold digB at h3
        have h4 := ih (10 * a + ((c.toNat : Int) - 48)) (k + 1) (fun c hc => hl c (List.mem_cons_of_mem _ hc)) (by omega) (by rw [Int.pow_succ]; omega)
        rw [List.foldl_cons, List.length_cons]
        rw [show k + (l.length + 1) = k + 1 + l.length by omega]
        exact h4
    have h1 := key (D.take k) 0 0 (fun c hc => hd c (List.mem_of_mem_take hc)) (by decide) (by decide)
    have h2 : (D.take k).length ≤ 6 := by rw [List.length_take]; omega
    rw [Nat.zero_add] at h1
    unfold valOf
    generalize (D.take k).length = j at h1 h2
    have h5 : (10 : Int) ^ j ≤ 1000000 := by
      have : j = 0 ∨ j = 1 ∨ j = 2 ∨ j = 3 ∨ j = 4 ∨ j = 5 ∨ j = 6 := by omega
      rcases this with rfl | rfl | rfl | rfl | rfl | rfl | rfl <;> decide
    refine ⟨h1.1, ?_⟩
    omega
  have hz0 : (s[p.length]'(by omega)).toNat = 48 → D.length = 1 := fun h => by
    have e := hget 0 hpos
    simp only [Nat.add_zero] at e
    rw [e] at h
    cases D with
    | nil => simp at hpos
    | cons c r => rw [hz c r rfl h]; rfl
  rw [show ((p.length : Int) + (D.length : Int)) = ((p.length + D.length : Nat) : Int) by omega]
  have h := num_core s p.length (p.length + D.length) (fun m => valOf (D.take (m - p.length))) hs (by omega) (by omega) (by omega) (by simp [valOf]) hbd (fun k => hvb (k - p.length)) (fun h => by rw [hz0 h]) (fun hj => by
    obtain ⟨r, hr⟩ := hgetq hj
    exact hq _ r hr) w
  simp only [Nat.add_sub_cancel_left, List.take_length, hv] at h
  exact h
end Go.Proofs.YtjkmdpejcgepkaaGreatDoor
