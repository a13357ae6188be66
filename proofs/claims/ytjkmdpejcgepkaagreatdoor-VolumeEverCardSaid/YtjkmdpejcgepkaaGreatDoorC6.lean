/- CheckVolume: the error of a volume. -/
import Derived.Test.YtjkmdpejcgepkaaGreatDoorC5
import Derived.Test.YtjkmdpejcgepkaaGreatDoorB2
namespace Go.Proofs.YtjkmdpejcgepkaaGreatDoor
open Go.RowKit
def ancs (l : List Para) : List Int := l.map (·.anchor)
def checkVol (x : Vol) : Int :=
  if 6 < x.parts.length ∨ 30 < x.paras.length then 3 else if x.valid = false then 1 else if (ancs x.paras).Nodup then 0 else 6
theorem nodup_take_succ (l : List Int) (k : Nat) (hk : k < l.length) (h : (l.take k).Nodup) (hn : l[k] ∉ l.take k) : (l.take (k + 1)).Nodup := by
  rw [List.take_succ_eq_append_getElem hk, List.nodup_append]
  refine ⟨h, by simp, fun a ha b hb => ?_⟩
  simp only [List.mem_singleton] at hb
  subst hb
  exact fun e => hn (e ▸ ha)
theorem not_nodup_take (l : List Int) (k : Nat) (hk : k < l.length) (hn : l[k] ∈ l.take k) : ¬ l.Nodup := by
  intro h
  obtain ⟨i, hi, e⟩ := List.mem_iff_getElem.1 hn
  have h2 : i < k := by rw [List.length_take] at hi; omega
  rw [List.getElem_take] at e
  have := (List.getElem_inj (h₀ := by omega) (h₁ := hk) h).1 e
  omega
theorem anchorB_in {a : Int} (h : anchorB a = true) : 1 ≤ a ∧ a ≤ 999 := by
  unfold anchorB withinB at h; simpa using h
theorem ok_anchor {p : Para} (h : p.ok = true) : 1 ≤ p.anchor ∧ p.anchor ≤ 999 := by
  unfold Para.ok at h
  rw [Bool.and_eq_true] at h
  exact anchorB_in h.1
theorem valid_paras {x : Vol} (h : x.valid = true) : ∀ p ∈ x.paras, 1 ≤ p.anchor ∧ p.anchor ≤ 999 := by
  unfold Vol.valid at h
  simp only [Bool.and_eq_true] at h
  intro p hp
  exact ok_anchor (List.all_eq_true.1 h.2.2 p hp)
set_option maxHeartbeats 2000000 in
theorem CheckVolume_any (v : Value) (x : Vol) (w : World) (hv : IsVol w v x) (hs : x.small) : Calls Tryz.prog 27 #[v] w fun e w' => e = .returned (.int .i64 (checkVol x)) ∧ Below w.heap.size w w' := by
  have hmm := @run_makeMap Tryz.prog
  have hvA : ∀ W, Below w.heap.size w W → Calls Tryz.prog 48 #[v] W fun e w' => e = .returned (.bool x.valid) ∧ Below W.heap.size W w' := fun W hW => valid_any v x W (hv.below hW) hs
  obtain ⟨sv, rfl, A, c, rfl, hc, hm, hr⟩ := id hv
  have hpl : x.paras.length ≤ 100000 := by
    have := take_paras_le x.parts x.parts.length hs.1 (fun p hp => (hs.2 p hp).1)
    rwa [List.take_length] at this
  have hval := @valid_paras x
  have R : Hid (checkVol x = if 6 < x.parts.length ∨ 30 < x.paras.length then 3 else if x.valid = false then 1 else if (ancs x.paras).Nodup then 0 else 6) := Lib.hid rfl
  have hpar : ∀ W, Below w.heap.size w W → Calls Tryz.prog 47 #[x.val (.slice A x.parts.length c)] W (ParasPost W x.paras) := fun W hW => paragraphs_any _ x W (hv.below hW) hs
  have hl := hs.1
  clear hv hs hr
  obtain ⟨n0, n1, n2, n3, ps⟩ := x
  dsimp only [Vol.val] at hvA hpar hc hm hl R ⊢
  generalize checkVol _ = r at R ⊢
  generalize (Vol.mk n0 n1 n2 n3 ps).valid = vb at R hvA hval
  generalize (Vol.mk n0 n1 n2 n3 ps).paras = l at R hpar hval hpl
  have hB1 : Below w.heap.size w (w.alloc (.cells #[.int .i64 n0, .int .i64 n1, .int .i64 n2, .int .i64 n3, .slice A ps.length c] 37)) := (Below.refl _ _).alloc (Nat.le_refl _) _
  have hpar1 := hpar _ hB1
  clear hpar
  by_cases h6 : 6 < ps.length
  · have HN := Lib.hid (show r = 3 by rw [R.out, if_pos (.inl h6)])
    have h6' : (6 : Int) < (ps.length : Int) := by omega
    clear R hval hvA h6
    go_enter Tryz.func27, Tryz.ntmps27
    go_wp2_with (go_at_call 47; refine hpar1.mono ?_; rintro e w' ⟨pv, rfl, hO, hb⟩; obtain ⟨hc1, hf1⟩ := bcell hb)
    go_ret
    exact ⟨ret_int HN.out.symm, hB1.go hb⟩
  have h6' : decide ((6 : Int) < (ps.length : Int)) = false := by simp; omega
  have h6n : decide (6 < ps.length) = false := by simp; omega
  by_cases h30 : 30 < l.length
  · have HN := Lib.hid (show r = 3 by rw [R.out, if_pos (.inr h30)])
    have h30' : (30 : Int) < (l.length : Int) := by omega
    clear R hval hvA
    go_enter Tryz.func27, Tryz.ntmps27
    go_wp2_with (go_at_call 47; refine hpar1.mono ?_; rintro e w' ⟨pv, rfl, hO, hb⟩; obtain ⟨hc1, hf1⟩ := bcell hb; obtain ⟨A2, c2, rfl, -⟩ := id hO.rd)
    go_ret
    exact ⟨ret_int HN.out.symm, hB1.go hb⟩
  have h30' : decide ((30 : Int) < (l.length : Int)) = false := by simp; omega
  have h30n : decide (30 < l.length) = false := by simp; omega
  have R1 : Hid (r = if vb = false then 1 else if (ancs l).Nodup then 0 else 6) := Lib.hid (by rw [R.out, if_neg (by omega)])
  clear R
  cases vb
  · have HN := Lib.hid (show r = 1 by rw [R1.out]; rfl)
    clear R1 hval
    go_enter Tryz.func27, Tryz.ntmps27
    go_wp2_with (go_at_call 47; refine hpar1.mono ?_; rintro e w' ⟨pv, rfl, hO, hb⟩; obtain ⟨hc1, hf1⟩ := bcell hb; obtain ⟨A2, c2, rfl, -⟩ := id hO.rd)
    refine (hvA _ (hB1.go hb)).mono ?_
    rintro e w2 ⟨rfl, hb2⟩
    go_wp2
    go_ret
    exact ⟨ret_int HN.out.symm, (hB1.go hb).go hb2⟩
  have R2 : Hid (r = if (ancs l).Nodup then 0 else 6) := Lib.hid R1.out
  have hval' := Lib.hid (hval rfl)
  clear R1 hval
  go_enter Tryz.func27, Tryz.ntmps27
  go_wp2_with (go_at_call 47; refine hpar1.mono ?_; rintro e w' ⟨pv, rfl, hO, hb⟩; obtain ⟨hc1, hf1⟩ := bcell hb; obtain ⟨A2, c2, rfl, -⟩ := id hO.rd)
  refine (hvA _ (hB1.go hb)).mono ?_
  rintro e w2 ⟨rfl, hb2⟩
  have hBB := Lib.hid ((hB1.go hb).go hb2)
  have hrd : Hid (Rd EP.f EP.k w2 (.slice A2 l.length c2) l) := Lib.hid (hO.rd.below hb2)
  clear hO hb hb2 hc1 hf1 hB1 hpar1 hvA h6' h6n h30' h30n hl hc hm
  go_wp2
  have hB0 : Below w2.heap.size w2 (w2.alloc (.map #[] 0)) := (Below.refl _ _).alloc (Nat.le_refl _) _
  go_loopg [6, 26] l.length (fun gg s6 s26 wr => ∃ kk : Nat, kk ≤ l.length ∧ l.length - kk ≤ gg ∧ s26 = .int .i64 kk ∧ Aside (Below w2.heap.size w2 wr ∧ OwnSet wr w2.heap.size kk ((ancs l).take kk).reverse ∧ ((ancs l).take kk).Nodup))
  case atStart => exact ⟨0, Nat.zero_le _, by omega, rfl, hB0, by simpa using OwnSet.made w2, by simp⟩
  case round =>
    obtain ⟨kk, hkk, hg, rfl, A1⟩ := hrel
    have hal : (ancs l).length = l.length := by simp [ancs]
    by_cases hlt : kk < l.length
    · obtain ⟨A3, c3, e3, _, _, hr3⟩ := hrd.out.below A1.out.1
      obtain ⟨b, off, rfl, hbl, hrow⟩ := hr3 (by omega)
      simp only [Value.slice.injEq] at e3
      obtain ⟨rfl, -, rfl⟩ := e3
      clear hr3
      have hin := (hval'.out) _ (List.getElem_mem hlt)
      have hc' := hrow kk hlt
      have hga : Hid ((ancs l)[kk]'(by omega) = l[kk].anchor) := Lib.hid (by simp [ancs])
      generalize l[kk] = y at hc' hin hga
      obtain ⟨ya, yt⟩ := y
      dsimp only at hin hga
      have c0 := hc' 0 _ rfl; have c1 := hc' 1 _ rfl
      clear hc' hrow
      have ek : EP.k = 2 := rfl
      simp only [Nat.add_zero, ek] at c0 c1
      clear ek
      have hk64 : inI64 ya := inI64_of (by omega) (by omega)
      have hkk2 : kk < maxLen := by unfold maxLen; omega
      have hS := A1.out.2.1
      have hS' := hS.alloc (.cells #[.int .i64 ya, .string yt] 67)
      have hsz : w2.heap.size < wr.heap.size := hS.lt
      have hAB : Hid (Below w2.heap.size w2 wr) := Lib.hid A1.out.1
      by_cases hin2 : ya ∈ (ancs l).take kk
      · have HN := Lib.hid (show r = 6 by
          rw [R2.out, if_neg (not_nodup_take (ancs l) kk (by omega) (by rw [hga.out]; exact hin2))])
        have hdec : decide (ya ∈ ((ancs l).take kk).reverse) = true := by simpa using hin2
        clear A1 hS hin2 hga R2
        generalize ((ancs l).take kk).reverse = acc at hS' hdec
        go_wp2_with (at_lookup; refine wp_set_lookup rfl _ _ rfl w2.heap.size kk acc ya rfl hS' rfl hk64 ?_; rw [hdec])
        go_ret
        exact ⟨ret_int HN.out.symm, (hBB.out.go hAB.out).alloc (by have h1 := hBB.out.size; omega) _⟩
      · have hdec : decide (ya ∈ ((ancs l).take kk).reverse) = false := by simpa using hin2
        have hnd : Hid (((ancs l).take (kk + 1)).Nodup) := Lib.hid (nodup_take_succ _ kk (by omega) A1.out.2.2 (by rw [hga.out]; exact hin2))
        have hrev : Hid (((ancs l).take (kk + 1)).reverse = ya :: ((ancs l).take kk).reverse) := Lib.hid (by
          rw [List.take_succ_eq_append_getElem (by omega), List.reverse_append, hga.out]; rfl)
        clear A1 hS hin2 hga
        generalize hacc : ((ancs l).take kk).reverse = acc at hS' hdec hrev
        clear hacc
        go_wp2_with (first | (at_lookup; refine wp_set_lookup rfl _ _ rfl w2.heap.size kk acc ya rfl hS' rfl hk64 ?_; rw [hdec]) | (at_mapUpdate; refine wp_set_put rfl _ _ _ rfl w2.heap.size kk acc ya rfl hS' hkk2 rfl rfl hk64 ?_; intro w3 hS3 hg3))
        go_roundg (l.length - (kk + 1))
        case measure => omega
        case rel =>
          refine ⟨kk + 1, by omega, by omega, by go_num, ?_, ?_, hnd.out⟩
          · exact ((hAB.out.alloc (by omega) _).grown hg3 (by simp; omega) (fun k e => by cases e; exact Nat.le_refl _))
          · rw [hrev.out]; exact hS3
    · have : kk = l.length := by omega
      subst this
      have hnd := A1.out.2.2
      rw [List.take_of_length_le (by omega)] at hnd
      have HN := Lib.hid (show r = 0 by rw [R2.out, if_pos hnd])
      have hAB := Lib.hid A1.out.1
      clear A1 hnd R2 hrd hval'
      go_wp2
      go_ret
      exact ⟨ret_int HN.out.symm, hBB.out.go hAB.out⟩
end Go.Proofs.YtjkmdpejcgepkaaGreatDoor
