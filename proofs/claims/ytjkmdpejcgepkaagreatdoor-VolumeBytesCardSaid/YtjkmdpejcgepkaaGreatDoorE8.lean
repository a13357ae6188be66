/- Errata, Volume: for the program. -/
import Derived.Test.YtjkmdpejcgepkaaGreatDoorE6
import Derived.Test.YtjkmdpejcgepkaaGreatDoorC7
namespace Go.Proofs.YtjkmdpejcgepkaaGreatDoor
open Go.RowKit
theorem heap_set {W : World} {b o : Nat} {cs : Array Value} {T : TypeId} {fr : Nat × Nat} (v : Value) (h : W.heap[b]? = some (.cells cs T fr)) : (W.setCell ⟨b, o, none⟩ v).heap[b]? = some (.cells (cs.setIfInBounds o v) T fr) := by
  simp [World.setCell, Array.getElem?_modify, h]
set_option maxHeartbeats 1000000 in
theorem lerratum_any (y : Err) (w : World) : Calls Tryz.prog 36 #[y.val] w fun e w' => e = .returned y.val ∧ Below w.heap.size w w' := by
  obtain ⟨y0, y1, y2, y3, y4, y5⟩ := y
  dsimp only [Err.val]
  go_enter Tryz.func36, Tryz.ntmps36
  go_wp2
  refine bodyPost_ret (v := .agg #[.int .i64 y0, .int .i64 y1, .int .u8 y2, .int .i64 y3, .string y4, .int .i64 y5]) (by simp [results, Tryz.results36, go_sem]) rfl ⟨rfl, ?_⟩
  exact ((Below.refl _ w).alloc (Nat.le_refl _) _).alloc (by simp) _
set_option maxHeartbeats 2000000 in
theorem lerrata_any (v : Value) (er : List Err) (w : World) (he : RdE w v er) (hl : er.length ≤ 1000000) : Calls Tryz.prog 15 #[v] w (OwnPost EE 77 w er) := by
  obtain ⟨A0, c0, rfl, hc0, hm0, hr0⟩ := id he
  clear he
  go_enter Tryz.func15, Tryz.ntmps15
  go_wp2
  go_loopg [3, 4] er.length (fun gg s3 s4 wr => ∃ kk : Nat, kk ≤ er.length ∧ er.length - kk ≤ gg ∧ s4 = .int .i64 kk ∧ Aside (Own EE 77 wr w.heap.size s3 (er.take kk) ∧ Below w.heap.size w wr))
  case atStart => exact ⟨0, Nat.zero_le _, by omega, rfl, Own.nil _ _ _ _, Below.refl _ _⟩
  case round =>
    obtain ⟨kk, hkk, hg, rfl, A2⟩ := hrel
    have hO := A2.out.1
    have HBw := Lib.hid A2.out.2
    clear A2
    by_cases hlt : kk < er.length
    · obtain ⟨b, off, rfl, hb, hrow⟩ := hr0 (by omega)
      obtain ⟨d0, d1, d2, d3, d4, d5⟩ := err_cells (hrow.below hb HBw.out) kk hlt
      have hbW : b < wr.heap.size := Nat.lt_of_lt_of_le hb HBw.out.size
      have htk := Lib.hid (List.take_succ_eq_append_getElem hlt)
      have hll : (er.take kk).length ≤ 1000000 := by rw [List.length_take]; omega
      have hmk := lerratum_any er[kk] wr
      have hz := HBw.out.size
      clear hrow
      generalize er.take kk = r0 at hO htk hll
      generalize er[kk] = y at d0 d1 d2 d3 d4 d5 htk hmk
      obtain ⟨y0, y1, y2, y3, y4, y5⟩ := y
      dsimp only [Err.val] at d0 d1 d2 d3 d4 d5 hmk
      have i1 : (0 : Int) ≤ ↑kk := by omega
      have i2 : (kk : Int) < (er.length : Int) := by omega
      go_wp2_with (first | (go_at_call 36; refine hmk.mono ?_; rintro e w1 ⟨rfl, hb1⟩; have hO1 := hO.below hb1; have hz1 : w.heap.size ≤ w1.heap.size := Nat.le_trans hz hb1.size) | (at_builtin; refine wp_append_one EE w.heap.size rfl _ _ 39 77 77 _ 56 (EE.f ⟨y0, y1, y2, y3, y4, y5⟩).toArray rfl Tryz.underlying39 Tryz.infoErr rfl (by decide) u3 r0 ⟨y0, y1, y2, y3, y4, y5⟩ rfl rfl rfl hO1 hz1 (by omega) ?_; intro v1 w2 hO2 hg2 hb2 hat2))
      go_roundg (er.length - (kk + 1))
      case measure => exact measU hg hlt
      case rel => exact ⟨kk + 1, hlt, Nat.le_refl _, by go_num, by rw [htk.out]; exact hO2, (HBw.out.go hb1).trans hb2⟩
    · have : kk = er.length := by omega
      subst this
      rw [List.take_length] at hO
      clear hr0
      go_wp2
      go_ret
      exact ⟨_, rfl, hO, HBw.out⟩
end Go.Proofs.YtjkmdpejcgepkaaGreatDoor
