/- Few, fault, ready: what the guards let in. -/
import Derived.Test.YtjkmdpejcgepkaaGreatDoorE5
namespace Go.Proofs.YtjkmdpejcgepkaaGreatDoor
open Go.RowKit
def partFew (p : Part) : Prop := p.paras.length ≤ 35 ∧ ∀ j (_ : j < p.paras.length), p.paras[j].text.size ≤ 210
structure FewOk (x : Vol) (l : List Err) : Prop where
  parts : ∀ j (_ : j < x.parts.length), partFew x.parts[j]
  texts : ∀ j (_ : j < l.length), l[j].text.size ≤ 210
  few : x.parts.length ≤ 8
  errs : l.length ≤ 25
def FewPost (w : World) (x : Vol) (l : List Err) (e : Ending) (w' : World) : Prop := (∃ b : Bool, e = .returned (.bool b) ∧ (b = true → FewOk x l)) ∧ Below w.heap.size w w'
set_option maxHeartbeats 8000000 in
set_option maxRecDepth 100000 in
theorem few_any (v ev : Value) (x : Vol) (er : List Err) (w : World) (hv : IsVol w v x) (he : RdE w ev er) : Calls Tryz.prog 31 #[v, ev] w (FewPost w x er) := by
  obtain ⟨sv, rfl, A, c, rfl, hc, hm, hr⟩ := id hv
  obtain ⟨A0, c0, rfl, hc0, hm0, hr0⟩ := id he
  have HRE : Hid (∀ W, Below w.heap.size w W → 0 < er.length → ∃ b off, A0 = some ⟨b, off, none⟩ ∧ b < w.heap.size ∧ b < W.heap.size ∧ RowAt EE.f EE.k W b off er) := Lib.hid fun W hW h0 => by
    obtain ⟨b, off, h1, h2, h3⟩ := hr0 h0
    exact ⟨b, off, h1, h2, Nat.lt_of_lt_of_le h2 hW.size, h3.below h2 hW⟩
  clear hv hr0 he
  obtain ⟨n0, n1, n2, n3, ps⟩ := x
  have HF : Hid (∀ (_ : ∀ j (_ : j < ps.length), partFew ps[j]) (_ : ∀ j (_ : j < er.length), er[j].text.size ≤ 210) (_ : ps.length ≤ 8) (_ : er.length ≤ 25), FewOk (Vol.mk n0 n1 n2 n3 ps) er) := Lib.hid fun a1 a2 a3 a4 => ⟨a1, a2, a3, a4⟩
  have HBAD : Hid (∀ w', Below w.heap.size w w' → FewPost w (Vol.mk n0 n1 n2 n3 ps) er (.returned (.bool false)) w') := Lib.hid fun w' h2 => ⟨⟨false, rfl, fun h => by cases h⟩, h2⟩
  have HGOOD : Hid (∀ w', FewOk (Vol.mk n0 n1 n2 n3 ps) er → Below w.heap.size w w' → FewPost w (Vol.mk n0 n1 n2 n3 ps) er (.returned (.bool true)) w') := Lib.hid fun w' h1 h2 => ⟨⟨true, rfl, fun _ => h1⟩, h2⟩
  dsimp only [Vol.val] at hc hm hr ⊢
  generalize FewOk (Vol.mk n0 n1 n2 n3 ps) er = ok at HF HGOOD
  generalize FewPost w (Vol.mk n0 n1 n2 n3 ps) er = PP at HBAD HGOOD ⊢
  have hB1 : Below w.heap.size w (w.alloc (.cells #[.int .i64 n0, .int .i64 n1, .int .i64 n2, .int .i64 n3, .slice A ps.length c] 24)) := (Below.refl _ _).alloc (Nat.le_refl _) _
  have hvc : Hid (∀ W, Below (w.alloc (.cells #[.int .i64 n0, .int .i64 n1, .int .i64 n2, .int .i64 n3, .slice A ps.length c] 24)).heap.size (w.alloc (.cells #[.int .i64 n0, .int .i64 n1, .int .i64 n2, .int .i64 n3, .slice A ps.length c] 24)) W →
      w.heap.size < W.heap.size ∧ W.cell? ⟨w.heap.size, 4, none⟩ = some (.slice A ps.length c)) := Lib.hid fun W h3 => by
    have hz := h3.size
    rw [World.size_alloc] at hz h3
    refine ⟨hz, ?_⟩; rw [h3.cell (p := ⟨w.heap.size, _, none⟩) (Nat.lt_succ_self _)]; simp [go_sem]
  go_enter Tryz.func31, Tryz.ntmps31
  go_wp2
  obtain ⟨W0, hW0⟩ : ∃ W0, w.alloc (.cells #[.int .i64 n0, .int .i64 n1, .int .i64 n2, .int .i64 n3, .slice A ps.length c] 24) = W0 := ⟨_, rfl⟩
  rw [hW0] at hB1 hvc ⊢
  clear hW0
  obtain ⟨x0, x1⟩ := hvc.out W0 (Below.refl _ _)
  go_loopg [5, 6] ps.length (fun gg s5 s6 wr => ∃ kk : Nat, kk ≤ ps.length ∧ ps.length - kk ≤ gg ∧ s5 = .int .i64 kk ∧ W0 = wr ∧ Aside (∀ j (_ : j < ps.length), j < kk → partFew ps[j]))
  case atStart => exact ⟨0, Nat.zero_le _, by omega, rfl, rfl, fun j _ h => absurd h (Nat.not_lt_zero _)⟩
  case round =>
    obtain ⟨kk, hkk, hg, rfl, rfl, A2⟩ := hrel
    have HPF := Lib.hid A2.out
    clear A2
    by_cases hlt : kk < ps.length
    · obtain ⟨b, off, rfl, hb, hr1⟩ := hr (by omega)
      obtain ⟨d1, pv, d2, d3⟩ := (hr1.below hb hB1) kk hlt
      have hbW : b < W0.heap.size := Nat.lt_of_lt_of_le hb hB1.size
      have HP2 : Hid (partFew ps[kk] → ∀ j (_ : j < ps.length), j < kk + 1 → partFew ps[j]) := Lib.hid fun h j hj hjk => by
        by_cases e : j = kk
        · subst e; exact h
        · exact HPF.out j hj (by omega)
      have HPD : Hid (∀ (_ : ps[kk].paras.length ≤ 35) (_ : ∀ j (_ : j < ps[kk].paras.length), ps[kk].paras[j].text.size ≤ 210), partFew ps[kk]) := Lib.hid fun h1 h2 => ⟨h1, h2⟩
      clear HPF hr1
      generalize partFew ps[kk] = pf at HP2 HPD
      generalize ps[kk].paras = p1 at d3 HPD
      obtain ⟨A2, c2, rfl, hc2, hm2, hr2⟩ := id d3
      have i1 : (0 : Int) ≤ ↑kk := by omega
      have i2 : (kk : Int) < (ps.length : Int) := by omega
      by_cases h35 : 35 < p1.length
      · have h35' : decide ((35 : Int) < (p1.length : Int)) = true := by simp; omega
        clear HPD HP2 d3 hr2
        go_wp2
        exact HBAD.out _ hB1
      have h35' : decide ((35 : Int) < (p1.length : Int)) = false := by simp; omega
      have h35n : decide (35 < p1.length) = false := by simp; omega
      go_wp2
      go_loopg [6] p1.length (fun gg s6 wr => ∃ mm : Nat, mm ≤ p1.length ∧ p1.length - mm ≤ gg ∧ s6 = .int .i64 mm ∧ W0 = wr ∧ Aside (∀ j (_ : j < p1.length), j < mm → p1[j].text.size ≤ 210))
      case atStart => exact ⟨0, Nat.zero_le _, by omega, rfl, rfl, fun j _ h => absurd h (Nat.not_lt_zero _)⟩
      case round =>
        obtain ⟨mm, hmm, hg2, rfl, rfl, A3⟩ := hrel
        have HT := Lib.hid A3.out
        clear A3
        by_cases hlm : mm < p1.length
        · obtain ⟨b3, off3, rfl, hb3, hra⟩ := hr2 (by omega)
          have c0 := hra mm hlm 1 _ rfl
          simp only [show EP.k = 2 from rfl] at c0
          have HT2 : Hid (p1[mm].text.size ≤ 210 → ∀ j (_ : j < p1.length), j < mm + 1 → p1[j].text.size ≤ 210) := Lib.hid fun h j hj hjk => by
            by_cases e : j = mm
            · subst e; exact h
            · exact HT.out j hj (by omega)
          clear HT hra hr2
          generalize p1[mm].text = tx at c0 HT2
          have i3 : (0 : Int) ≤ ↑mm := by omega
          have i4 : (mm : Int) < (p1.length : Int) := by omega
          by_cases h210 : 210 < tx.size
          · have h210' : decide ((210 : Int) < (tx.size : Int)) = true := by simp; omega
            go_wp2
            exact HBAD.out _ hB1
          · have h210' : decide ((210 : Int) < (tx.size : Int)) = false := by simp; omega
            have h210n : decide (210 < tx.size) = false := by simp; omega
            have HT3 := Lib.hid (HT2.out (by omega))
            clear HT2
            go_wp2
            go_roundg (p1.length - (mm + 1))
            case measure => exact measU hg2 hlm
            case rel => exact ⟨mm + 1, hlm, Nat.le_refl _, by go_num, rfl, HT3.out⟩
        · have : mm = p1.length := by omega
          subst this
          have HP3 := Lib.hid (HP2.out (HPD.out (by omega) (fun j hj => HT.out j hj hj)))
          clear HP2 HPD HT d3 hr2
          go_wp2
          go_roundg (ps.length - (kk + 1))
          case measure => exact measU hg hlt
          case rel => exact ⟨kk + 1, hlt, Nat.le_refl _, by go_num, rfl, HP3.out⟩
    · have : kk = ps.length := by omega
      subst this
      have HF2 := Lib.hid (HF.out (fun j hj => HPF.out j hj hj))
      clear HPF HF hr hg hkk hlt
      go_wp2
      go_loopg [7] er.length (fun gg s7 wr => ∃ mm : Nat, mm ≤ er.length ∧ er.length - mm ≤ gg ∧ s7 = .int .i64 mm ∧ W0 = wr ∧ Aside (∀ j (_ : j < er.length), j < mm → er[j].text.size ≤ 210))
      case atStart => exact ⟨0, Nat.zero_le _, by omega, rfl, rfl, fun j _ h => absurd h (Nat.not_lt_zero _)⟩
      case round =>
        obtain ⟨mm, hmm, hg2, rfl, rfl, A3⟩ := hrel
        have HT := Lib.hid A3.out
        clear A3
        by_cases hlm : mm < er.length
        · obtain ⟨b, off, rfl, hb, hbW, hrow⟩ := HRE.out W0 hB1 (by omega)
          obtain ⟨-, -, -, -, d4, -⟩ := err_cells hrow mm hlm
          have HT2 : Hid (er[mm].text.size ≤ 210 → ∀ j (_ : j < er.length), j < mm + 1 → er[j].text.size ≤ 210) := Lib.hid fun h j hj hjk => by
            by_cases e : j = mm
            · subst e; exact h
            · exact HT.out j hj (by omega)
          clear HT hrow
          generalize er[mm].text = tx at d4 HT2
          have i3 : (0 : Int) ≤ ↑mm := by omega
          have i4 : (mm : Int) < (er.length : Int) := by omega
          by_cases h210 : 210 < tx.size
          · have h210' : decide ((210 : Int) < (tx.size : Int)) = true := by simp; omega
            go_wp2
            exact HBAD.out _ hB1
          · have h210' : decide ((210 : Int) < (tx.size : Int)) = false := by simp; omega
            have h210n : decide (210 < tx.size) = false := by simp; omega
            have HT3 := Lib.hid (HT2.out (by omega))
            clear HT2
            go_wp2
            go_roundg (er.length - (mm + 1))
            case measure => exact measU hg2 hlm
            case rel => exact ⟨mm + 1, hlm, Nat.le_refl _, by go_num, rfl, HT3.out⟩
        · have : mm = er.length := by omega
          subst this
          have HF3 := Lib.hid (HF2.out (fun j hj => HT.out j hj hj))
          clear HF2 HT
          by_cases h8 : ps.length ≤ 8
          · have h8' : decide ((ps.length : Int) ≤ (8 : Int)) = true := by simp; omega
            by_cases h25 : er.length ≤ 25
            · have h25' : decide ((er.length : Int) ≤ (25 : Int)) = true := by simp; omega
              have HF4 := Lib.hid (HF3.out h8 h25)
              go_wp2
              exact HGOOD.out _ HF4.out hB1
            · have h25' : decide ((er.length : Int) ≤ (25 : Int)) = false := by simp; omega
              have h25n : decide (er.length ≤ 25) = false := by simp; omega
              go_wp2
              exact HBAD.out _ hB1
          · have h8' : decide ((ps.length : Int) ≤ (8 : Int)) = false := by simp; omega
            have h8n : decide (ps.length ≤ 8) = false := by simp; omega
            go_wp2
            exact HBAD.out _ hB1
end Go.Proofs.YtjkmdpejcgepkaaGreatDoor
/- fault, ready. -/
namespace Go.Proofs.YtjkmdpejcgepkaaGreatDoor
open Go.RowKit
theorem FewOk.small {x : Vol} {l : List Err} (h : FewOk x l) : x.small ∧ (∀ p ∈ x.paras, p.text.size ≤ 1000000) ∧ (∀ y ∈ l, y.text.size ≤ 1000000) := by
  have hp : ∀ p ∈ x.parts, p.paras.length ≤ 35 ∧ ∀ q ∈ p.paras, q.text.size ≤ 210 := fun p hp => by
    obtain ⟨j, hj, rfl⟩ := List.mem_iff_getElem.1 hp
    have := h.parts j hj
    refine ⟨this.1, fun q hq => ?_⟩
    obtain ⟨m, hm, rfl⟩ := List.mem_iff_getElem.1 hq
    exact this.2 m hm
  refine ⟨⟨by have := h.few; omega, fun p hp' => ⟨by have := (hp p hp').1; omega, fun q hq => by have := (hp p hp').2 q hq; omega⟩⟩, ?_, ?_⟩
  · intro q hq
    obtain ⟨p, hp', hq⟩ := List.mem_flatMap.1 hq
    have := (hp p hp').2 q hq; omega
  · intro y hy
    obtain ⟨m, hm, rfl⟩ := List.mem_iff_getElem.1 hy
    have := h.texts m hm; omega
def FaultAll (w : World) (x : Vol) (l : List Err) (e : Ending) (w' : World) : Prop := (∃ n : Int, e = .returned (.int .i64 n) ∧ (n = 0 → checkVol x = 0 ∧ EOk x l)) ∧ Below w.heap.size w w'
set_option maxHeartbeats 2000000 in
theorem lfault_any (v ev : Value) (x : Vol) (er : List Err) (w : World) (hv : IsVol w v x) (he : RdE w ev er) (hf : FewOk x er) : Calls Tryz.prog 32 #[v, ev] w (FaultAll w x er) := by
  obtain ⟨hs, ht1, ht2⟩ := hf.small
  obtain ⟨sv, rfl, A, c, rfl, hc, hm, hr⟩ := id hv
  obtain ⟨A0, c0, rfl, hc0, hm0, hr0⟩ := id he
  have h1 : ∀ W, Below w.heap.size w W → Calls Tryz.prog 50 #[x.val (.slice A x.parts.length c)] W (FaultPost W x) := fun W hW => rfault_any _ x W (hv.below hW) hs ht1
  have h2 : ∀ W, Below w.heap.size w W → Calls Tryz.prog 51 #[x.val (.slice A x.parts.length c), .slice A0 er.length c0] W (EFaultPost W x er) := fun W hW => refault_any _ _ x er W (hv.below hW) hs (Rd.below he hW) ht2
  clear hv he hr hr0 hf hs ht1 ht2
  obtain ⟨n0, n1, n2, n3, ps⟩ := x
  have HP : Hid (∀ (n : Int) w', (n = 0 → checkVol (Vol.mk n0 n1 n2 n3 ps) = 0 ∧ EOk (Vol.mk n0 n1 n2 n3 ps) er) → Below w.heap.size w w' → FaultAll w (Vol.mk n0 n1 n2 n3 ps) er (.returned (.int .i64 n)) w') := Lib.hid fun n w' a b => ⟨⟨n, rfl, a⟩, b⟩
  dsimp only [Vol.val] at hc hm h1 h2 ⊢
  have hB1 : Below w.heap.size w (w.alloc (.cells #[.int .i64 n0, .int .i64 n1, .int .i64 n2, .int .i64 n3, .slice A ps.length c] 24)) := (Below.refl _ _).alloc (Nat.le_refl _) _
  have h11 := h1 _ hB1
  unfold FaultPost at h11
  unfold EFaultPost at h2
  generalize FaultAll w (Vol.mk n0 n1 n2 n3 ps) er = PP at HP ⊢
  generalize checkVol (Vol.mk n0 n1 n2 n3 ps) = ck at HP h11
  generalize EOk (Vol.mk n0 n1 n2 n3 ps) er = ok at HP h2
  clear h1
  go_enter Tryz.func32, Tryz.ntmps32
  go_wp2_with (fail)
  refine h11.mono ?_
  rintro e w1 ⟨⟨n, rfl, hn⟩, hb1⟩
  obtain ⟨hc1, hf1⟩ := bcell hb1
  have hz1 := hb1.size
  clear h11
  by_cases h0 : n = 0
  · subst h0
    have HN := Lib.hid (hn rfl)
    clear hn
    have h2' := h2 w1 (hB1.go hb1)
    go_wp2_with (fail)
    refine h2'.mono ?_
    rintro e w2 ⟨⟨n, rfl, hn⟩, hb2⟩
    have HN2 := Lib.hid hn
    clear hn h2' h2 hc1 hf1
    go_wp2
    exact HP.out n _ (fun h => ⟨HN.out, HN2.out h⟩) ((hB1.go hb1).go hb2)
  · have h0' : (n != 0) = true := by simpa using h0
    have HNE := Lib.hid h0
    clear h2 h0 hn
    go_wp2
    exact HP.out n _ (fun h => absurd h HNE.out) (hB1.go hb1)
def ReadyPost (w : World) (x : Vol) (l : List Err) (e : Ending) (w' : World) : Prop := (∃ b : Bool, e = .returned (.bool b) ∧ (b = true → FewOk x l ∧ checkVol x = 0 ∧ EOk x l)) ∧ Below w.heap.size w w'
set_option maxHeartbeats 2000000 in
theorem ready_any (v ev : Value) (x : Vol) (er : List Err) (w : World) (hv : IsVol w v x) (he : RdE w ev er) : Calls Tryz.prog 11 #[v, ev] w (ReadyPost w x er) := by
  obtain ⟨sv, rfl, A, c, rfl, hc, hm, hr⟩ := id hv
  obtain ⟨A0, c0, rfl, hc0, hm0, hr0⟩ := id he
  have h1 : ∀ W, Below w.heap.size w W → Calls Tryz.prog 31 #[x.val (.slice A x.parts.length c), .slice A0 er.length c0] W (FewPost W x er) := fun W hW => few_any _ _ x er W (hv.below hW) (Rd.below he hW)
  have h2 : ∀ W, Below w.heap.size w W → FewOk x er → Calls Tryz.prog 32 #[x.val (.slice A x.parts.length c), .slice A0 er.length c0] W (FaultAll W x er) := fun W hW hf => lfault_any _ _ x er W (hv.below hW) (Rd.below he hW) hf
  clear hv he hr hr0
  obtain ⟨n0, n1, n2, n3, ps⟩ := x
  have HP : Hid (∀ (b : Bool) w', (b = true → FewOk (Vol.mk n0 n1 n2 n3 ps) er ∧ checkVol (Vol.mk n0 n1 n2 n3 ps) = 0 ∧ EOk (Vol.mk n0 n1 n2 n3 ps) er) → Below w.heap.size w w' → ReadyPost w (Vol.mk n0 n1 n2 n3 ps) er (.returned (.bool b)) w') := Lib.hid fun n w' a b => ⟨⟨n, rfl, a⟩, b⟩
  dsimp only [Vol.val] at hc hm h1 h2 ⊢
  have hB1 : Below w.heap.size w (w.alloc (.cells #[.int .i64 n0, .int .i64 n1, .int .i64 n2, .int .i64 n3, .slice A ps.length c] 24)) := (Below.refl _ _).alloc (Nat.le_refl _) _
  have h11 := h1 _ hB1
  unfold FewPost at h11
  unfold FaultAll at h2
  generalize ReadyPost w (Vol.mk n0 n1 n2 n3 ps) er = PP at HP ⊢
  generalize checkVol (Vol.mk n0 n1 n2 n3 ps) = ck at HP h2
  generalize EOk (Vol.mk n0 n1 n2 n3 ps) er = ok at HP h2
  generalize FewOk (Vol.mk n0 n1 n2 n3 ps) er = fw at HP h2 h11
  clear h1
  go_enter Tryz.func11, Tryz.ntmps11
  go_wp2_with (fail)
  refine h11.mono ?_
  rintro e w1 ⟨⟨b, rfl, hn⟩, hb1⟩
  obtain ⟨hc1, hf1⟩ := bcell hb1
  have hz1 := hb1.size
  cases b
  · clear h2 hn h11
    go_wp2
    exact HP.out false _ (fun h => by cases h) (hB1.go hb1)
  · have h2' := h2 w1 (hB1.go hb1) (hn rfl)
    have HN := Lib.hid (hn rfl)
    clear hn h11 h2
    go_wp2_with (fail)
    refine h2'.mono ?_
    rintro e w2 ⟨⟨n, rfl, hn⟩, hb2⟩
    have HN2 := Lib.hid hn
    clear hn h2' hc1 hf1
    go_wp2
    exact HP.out (n == 0) _ (fun h => ⟨HN.out, HN2.out (by simpa using h)⟩) ((hB1.go hb1).go hb2)
end Go.Proofs.YtjkmdpejcgepkaaGreatDoor
