/- fault, ready. -/
import Derived.Test.YtjkmdpejcgepkaaGreatDoorE6
namespace Go.Proofs.YtjkmdpejcgepkaaGreatDoor
open Go.RowKit
theorem FewOk.small {x : Vol} {l : List Err} (h : FewOk x l) : x.small ∧ (∀ p ∈ x.paras, p.text.size ≤ 1000000) ∧ (∀ y ∈ l, y.text.size ≤ 1000000) := by
  have hp : ∀ p ∈ x.parts, p.paras.length ≤ 35 ∧ ∀ q ∈ p.paras, q.text.size ≤ 210 := fun p hp => by
    obtain ⟨j, hj, rfl⟩ := List.mem_iff_getElem.1 hp
    have := h.parts j hj
    refine ⟨this.1, fun q hq => ?_⟩
    obtain ⟨m, hm, rfl⟩ := List.mem_iff_getElem.1 hq
    exact this.2 m hm
  refine ⟨⟨by have := h.few; omega, fun p hp' => ⟨by have := (hp p hp').1; omega, fun q hq => by have := (hp p hp').2 q hq; omega⟩⟩, ?_, ?_⟩
  · intro q hq
    obtain ⟨p, hp', hq⟩ := List.mem_flatMap.1 hq
    have := (hp p hp').2 q hq; omega
  · intro y hy
    obtain ⟨m, hm, rfl⟩ := List.mem_iff_getElem.1 hy
    have := h.texts m hm; omega
def FaultAll (w : World) (x : Vol) (l : List Err) (e : Ending) (w' : World) : Prop := (∃ n : Int, e = .returned (.int .i64 n) ∧ (n = 0 → checkVol x = 0 ∧ EOk x l)) ∧ Below w.heap.size w w'
set_option maxHeartbeats 2000000 in
theorem lfault_any (v ev : Value) (x : Vol) (er : List Err) (w : World) (hv : IsVol w v x) (he : RdE w ev er) (hf : FewOk x er) : Calls Tryz.prog 32 #[v, ev] w (FaultAll w x er) := by
  obtain ⟨hs, ht1, ht2⟩ := hf.small
  obtain ⟨sv, rfl, A, c, rfl, hc, hm, hr⟩ := id hv
  obtain ⟨A0, c0, rfl, hc0, hm0, hr0⟩ := id he
  have h1 : ∀ W, Below w.heap.size w W → Calls Tryz.prog 50 #[x.val (.slice A x.parts.length c)] W (FaultPost W x) := fun W hW => rfault_any _ x W (hv.below hW) hs ht1
  have h2 : ∀ W, Below w.heap.size w W → Calls Tryz.prog 51 #[x.val (.slice A x.parts.length c), .slice A0 er.length c0] W (EFaultPost W x er) := fun W hW => refault_any _ _ x er W (hv.below hW) hs (Rd.below he hW) ht2
  clear hv he hr hr0 hf hs ht1 ht2
  obtain ⟨n0, n1, n2, n3, ps⟩ := x
  have HP : Hid (∀ (n : Int) w', (n = 0 → checkVol (Vol.mk n0 n1 n2 n3 ps) = 0 ∧ EOk (Vol.mk n0 n1 n2 n3 ps) er) → Below w.heap.size w w' → FaultAll w (Vol.mk n0 n1 n2 n3 ps) er (.returned (.int .i64 n)) w') := Lib.hid fun n w' a b => ⟨⟨n, rfl, a⟩, b⟩
  dsimp only [Vol.val] at hc hm h1 h2 ⊢
  have hB1 : Below w.heap.size w (w.alloc (.cells #[.int .i64 n0, .int .i64 n1, .int .i64 n2, .int .i64 n3, .slice A ps.length c] 24)) := (Below.refl _ _).alloc (Nat.le_refl _) _
  have h11 := h1 _ hB1
  unfold FaultPost at h11
  unfold EFaultPost at h2
  generalize FaultAll w (Vol.mk n0 n1 n2 n3 ps) er = PP at HP ⊢
  generalize checkVol (Vol.mk n0 n1 n2 n3 ps) = ck at HP h11
  generalize EOk (Vol.mk n0 n1 n2 n3 ps) er = ok at HP h2
  clear h1
  go_enter Tryz.func32, Tryz.ntmps32
  go_wp2_with (fail)
  refine h11.mono ?_
  rintro e w1 ⟨⟨n, rfl, hn⟩, hb1⟩
  obtain ⟨hc1, hf1⟩ := bcell hb1
  have hz1 := hb1.size
  clear h11
  by_cases h0 : n = 0
  · subst h0
    have HN := Lib.hid (hn rfl)
    clear hn
    have h2' := h2 w1 (hB1.go hb1)
    go_wp2_with (fail)
    refine h2'.mono ?_
    rintro e w2 ⟨⟨n, rfl, hn⟩, hb2⟩
    have HN2 := Lib.hid hn
    clear hn h2' h2 hc1 hf1
    go_wp2
    exact HP.out n _ (fun h => ⟨HN.out, HN2.out h⟩) ((hB1.go hb1).go hb2)
  · have h0' : (n != 0) = true := by simpa using h0
    have HNE := Lib.hid h0
    clear h2 h0 hn
    go_wp2
    exact HP.out n _ (fun h => absurd h HNE.out) (hB1.go hb1)
def ReadyPost (w : World) (x : Vol) (l : List Err) (e : Ending) (w' : World) : Prop := (∃ b : Bool, e = .returned (.bool b) ∧ (b = true → FewOk x l ∧ checkVol x = 0 ∧ EOk x l)) ∧ Below w.heap.size w w'
set_option maxHeartbeats 2000000 in
theorem ready_any (v ev : Value) (x : Vol) (er : List Err) (w : World) (hv : IsVol w v x) (he : RdE w ev er) : Calls Tryz.prog 11 #[v, ev] w (ReadyPost w x er) := by
  obtain ⟨sv, rfl, A, c, rfl, hc, hm, hr⟩ := id hv
  obtain ⟨A0, c0, rfl, hc0, hm0, hr0⟩ := id he
  have h1 : ∀ W, Below w.heap.size w W → Calls Tryz.prog 31 #[x.val (.slice A x.parts.length c), .slice A0 er.length c0] W (FewPost W x er) := fun W hW => few_any _ _ x er W (hv.below hW) (Rd.below he hW)
  have h2 : ∀ W, Below w.heap.size w W → FewOk x er → Calls Tryz.prog 32 #[x.val (.slice A x.parts.length c), .slice A0 er.length c0] W (FaultAll W x er) := fun W hW hf => lfault_any _ _ x er W (hv.below hW) (Rd.below he hW) hf
  clear hv he hr hr0
  obtain ⟨n0, n1, n2, n3, ps⟩ := x
  have HP : Hid (∀ (b : Bool) w', (b = true → FewOk (Vol.mk n0 n1 n2 n3 ps) er ∧ checkVol (Vol.mk n0 n1 n2 n3 ps) = 0 ∧ EOk (Vol.mk n0 n1 n2 n3 ps) er) → Below w.heap.size w w' → ReadyPost w (Vol.mk n0 n1 n2 n3 ps) er (.returned (.bool b)) w') := Lib.hid fun n w' a b => ⟨⟨n, rfl, a⟩, b⟩
  dsimp only [Vol.val] at hc hm h1 h2 ⊢
  have hB1 : Below w.heap.size w (w.alloc (.cells #[.int .i64 n0, .int .i64 n1, .int .i64 n2, .int .i64 n3, .slice A ps.length c] 24)) := (Below.refl _ _).alloc (Nat.le_refl _) _
  have h11 := h1 _ hB1
  unfold FewPost at h11
  unfold FaultAll at h2
  generalize ReadyPost w (Vol.mk n0 n1 n2 n3 ps) er = PP at HP ⊢
  generalize checkVol (Vol.mk n0 n1 n2 n3 ps) = ck at HP h2
  generalize EOk (Vol.mk n0 n1 n2 n3 ps) er = ok at HP h2
  generalize FewOk (Vol.mk n0 n1 n2 n3 ps) er = fw at HP h2 h11
  clear h1
  go_enter Tryz.func11, Tryz.ntmps11
  go_wp2_with (fail)
  refine h11.mono ?_
  rintro e w1 ⟨⟨b, rfl, hn⟩, hb1⟩
  obtain ⟨hc1, hf1⟩ := bcell hb1
  have hz1 := hb1.size
  cases b
  · clear h2 hn h11
    go_wp2
    exact HP.out false _ (fun h => by cases h) (hB1.go hb1)
  · have h2' := h2 w1 (hB1.go hb1) (hn rfl)
    have HN := Lib.hid (hn rfl)
    clear hn h11 h2
    go_wp2_with (fail)
    refine h2'.mono ?_
    rintro e w2 ⟨⟨n, rfl, hn⟩, hb2⟩
    have HN2 := Lib.hid hn
    clear hn h2' hc1 hf1
    go_wp2
    exact HP.out (n == 0) _ (fun h => ⟨HN.out, HN2.out (by simpa using h)⟩) ((hB1.go hb1).go hb2)
end Go.Proofs.YtjkmdpejcgepkaaGreatDoor
