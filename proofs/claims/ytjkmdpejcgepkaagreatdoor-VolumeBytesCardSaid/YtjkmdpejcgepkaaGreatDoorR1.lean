/- The arguments, opened. -/
import Derived.Test.YtjkmdpejcgepkaaGreatDoorC4
import Derived.ProofKit
import Derived.Deep.Slices
namespace Go.Proofs.YtjkmdpejcgepkaaGreatDoor
open Go.RowKit Go.ChangeShapes Go.WideShapes Go.Deep
section
variable {H : Type} {enc : TypeId × Value → H} {w : World} {spare : Nat → Bool} {held : Bool}
theorem cInt : Tryz.prog.cellsOf 3 = 1 := by kernel_rfl
theorem cStr : Tryz.prog.cellsOf 9 = 1 := by kernel_rfl
theorem cU8 : Tryz.prog.cellsOf 5 = 1 := by kernel_rfl
theorem cRPara : Tryz.prog.cellsOf 50 = 2 := by kernel_rfl
theorem cRErr : Tryz.prog.cellsOf 27 = 6 := by kernel_rfl
theorem cRPart : Tryz.prog.cellsOf 98 = 2 := by kernel_rfl
theorem cRVol : Tryz.prog.cellsOf 24 = 5 := by kernel_rfl
theorem cRParas : Tryz.prog.cellsOf 96 = 1 := by kernel_rfl
theorem cRParts : Tryz.prog.cellsOf 22 = 1 := by kernel_rfl
/-- a slice, opened: each element's cells -/
theorem open_elems {t e k : Nat} {fuel : Nat} {cs : List Value} {x : DataW H × List MemPlace} (ht : Tryz.prog.underlying t = some (.slice e)) (hk : Tryz.prog.cellsOf e = k) (hk0 : 0 < k) (h : DataW.trod enc Tryz.prog w 0 spare held fuel t cs = some x) :
    ∃ A len cap n, cs = [.slice A len cap] ∧ len ≤ cap ∧ cap ≤ maxLen ∧ (0 < len → ∃ b off, A = some ⟨b, off, none⟩ ∧ b < w.heap.size ∧
      ∀ i, i < len → ∃ cs' y, cs'.length = k ∧ (∀ j, j < k → w.cell? ⟨b, off + i * k + j, none⟩ = cs'[j]?) ∧ DataW.trod enc Tryz.prog w 0 spare held n e cs' = some y) ∧
      (∀ xs sp, x.1 = .slice xs sp → xs.length = len) ∧ (x.1 = .nil ∧ len = 0 ∨ ∃ xs sp, x.1 = .slice xs sp) := by
  rcases open_slice ht h with ⟨rfl, rfl⟩ | ⟨a, len, cap, m, n, D, Pl, rfl, hb, hl, hm, hmm, rfl, hx⟩
  · refine ⟨none, 0, 0, 0, rfl, Nat.le_refl _, ?_, ?_, ?_, .inl ⟨rfl, rfl⟩⟩
    · exact Nat.zero_le maxLen
    · intro h; exact absurd h (Nat.lt_irrefl 0)
    · intro xs sp h; cases h
  · refine ⟨some a, len, cap, n, rfl, hl, hm, fun h0 => ?_, fun xs sp h => by (cases h; simp only [List.length_map, List.length_range]), .inr ⟨_, _, rfl⟩⟩
    have hlm : len ≤ m := by rw [hmm]; split <;> omega
    rw [hk] at hx
    obtain ⟨b, off, spot⟩ := a
    obtain ⟨cs0, q1, -⟩ := hx 0 (by omega)
    obtain ⟨_, hlen, hcell⟩ := World.cells?_some q1
    have g0 := hcell 0 hk0
    obtain ⟨c0, hc0⟩ : ∃ c0, cs0[0]? = some c0 := ⟨cs0[0]'(by omega), List.getElem?_eq_getElem _⟩
    rw [hc0] at g0
    have hspot : spot = none := by simpa [Addr.add] using World.cell?_spot g0
    subst hspot
    rw [Nat.zero_mul, add_plain, add_plain] at g0
    refine ⟨b, off, rfl, ?_, fun i hi => ?_⟩
    · unfold World.cell? at g0
      cases hh : w.heap[b]? with
      | none => simp [hh] at g0
      | some o => exact (Array.getElem?_eq_some_iff.1 hh).1
    · obtain ⟨cs', h1, h2⟩ := hx i (by omega)
      obtain ⟨_, hlen', hcell'⟩ := World.cells?_some h1
      refine ⟨cs', _, hlen', fun j hj => ?_, h2⟩
      have := hcell' j hj
      rwa [add_plain, add_plain] at this
set_option maxRecDepth 100000 in
theorem open_para {fuel : Nat} {cs : List Value} {x : DataW H × List MemPlace} (h : DataW.trod enc Tryz.prog w 0 spare held fuel 50 cs = some x) : ∃ y : Para, cs = Para.enc y := by
  obtain ⟨xs, k, _, _, hlen, hxl, hf⟩ := DataW.trod_struct Tryz.underlying50 h
  rw [cRPara] at hlen
  match cs, hlen, xs, hxl with
  | [v0, v1], _, [y0, y1], _ =>
    have g0 := hf 0 _ rfl
    have g1 := hf 1 _ rfl
    simp [cInt, cStr] at g0 g1
    obtain ⟨a, e0, -⟩ := DataW.trod_int Tryz.underlying3 g0
    obtain ⟨s, e1, -⟩ := DataW.trod_string Tryz.underlying9 g1
    cases e0; cases e1
    exact ⟨⟨a, s⟩, rfl⟩
set_option maxRecDepth 100000 in
theorem open_err {fuel : Nat} {cs : List Value} {x : DataW H × List MemPlace} (h : DataW.trod enc Tryz.prog w 0 spare held fuel 27 cs = some x) : ∃ y : Err, cs = y.val.cells.toList ∧ (0 ≤ y.kind ∧ y.kind ≤ 255) := by
  obtain ⟨xs, k, _, _, hlen, hxl, hf⟩ := DataW.trod_struct Tryz.underlying27 h
  rw [cRErr] at hlen
  match cs, hlen, xs, hxl with
  | [v0, v1, v2, v3, v4, v5], _, [y0, y1, y2, y3, y4, y5], _ =>
    have g0 := hf 0 _ rfl; have g1 := hf 1 _ rfl; have g2 := hf 2 _ rfl; have g3 := hf 3 _ rfl; have g4 := hf 4 _ rfl; have g5 := hf 5 _ rfl
    simp [cInt, cStr, cU8] at g0 g1 g2 g3 g4 g5
    obtain ⟨a0, e0, -⟩ := DataW.trod_int Tryz.underlying3 g0
    obtain ⟨a1, e1, -⟩ := DataW.trod_int Tryz.underlying3 g1
    obtain ⟨a2, e2, -, hw⟩ := DataW.trod_int Tryz.underlying5 g2
    obtain ⟨a3, e3, -⟩ := DataW.trod_int Tryz.underlying3 g3
    obtain ⟨s, e4, -⟩ := DataW.trod_string Tryz.underlying9 g4
    obtain ⟨a5, e5, -⟩ := DataW.trod_int Tryz.underlying3 g5
    cases e0; cases e1; cases e2; cases e3; cases e4; cases e5
    refine ⟨⟨a0, a1, a2, a3, s, a5⟩, rfl, ?_⟩
    simp [Lit.wf] at hw
    exact hw
/-- the elements, one by one -/
theorem list_of {α : Type} (p : Nat → α → Prop) : ∀ n, (∀ i, i < n → ∃ y, p i y) → ∃ l : List α, l.length = n ∧ ∀ i (h : i < l.length), p i l[i]
  | 0, _ => ⟨[], rfl, fun i h => by simp at h⟩
  | n + 1, h => by
    obtain ⟨l, hl, hp⟩ := list_of p n fun i hi => h i (by omega)
    obtain ⟨y, hy⟩ := h n (by omega)
    refine ⟨l ++ [y], by simp [hl], fun i hi => ?_⟩
    by_cases hi' : i < l.length
    · rw [List.getElem_append_left hi']; exact hp i hi'
    · have : i = n := by simp at hi; omega
      subst this
      rw [List.getElem_append_right (by omega)]; simp [hl]; exact hy
theorem maxLen_int {n : Nat} (h : n ≤ maxLen) : (n : Int) ≤ 9223372036854775807 := by unfold maxLen at h; omega
set_option maxRecDepth 100000 in
theorem open_paras {fuel : Nat} {cs : List Value} {x : DataW H × List MemPlace} (h : DataW.trod enc Tryz.prog w 0 spare held fuel 96 cs = some x) : ∃ v xs, cs = [v] ∧ RdP w v xs := by
  obtain ⟨A, len, cap, n, rfl, hl, hm, hr, -⟩ := open_elems Tryz.underlying96 cRPara (by decide) h
  by_cases h0 : 0 < len
  · obtain ⟨b, off, rfl, hb, hc⟩ := hr h0
    obtain ⟨l, hll, hp⟩ := list_of (fun i (y : Para) => ∀ j, j < 2 → w.cell? ⟨b, off + i * 2 + j, none⟩ = (Para.enc y)[j]?) len fun i hi => by
      obtain ⟨cs', y, _, h2, h3⟩ := hc i hi
      obtain ⟨z, rfl⟩ := open_para h3
      exact ⟨z, h2⟩
    refine ⟨_, l, rfl, some ⟨b, off, none⟩, cap, by rw [hll], by omega, maxLen_int (by omega), fun _ => ⟨b, off, rfl, hb, fun i hi j u hu => ?_⟩⟩
    have hj : j < 2 := (List.getElem?_eq_some_iff.1 hu).1
    rw [← hu]; exact hp i hi j hj
  · obtain rfl : len = 0 := by omega
    exact ⟨_, [], rfl, A, cap, rfl, Nat.zero_le _, by simp, fun h => by simp at h⟩
set_option maxRecDepth 100000 in
theorem open_errs {fuel : Nat} {cs : List Value} {x : DataW H × List MemPlace} (h : DataW.trod enc Tryz.prog w 0 spare held fuel 25 cs = some x) :
    ∃ v xs, cs = [v] ∧ RdE w v xs ∧ (∀ y ∈ xs, 0 ≤ y.kind ∧ y.kind ≤ 255) ∧ (xs = [] ∨ ∃ ds sp, x.1 = .slice ds sp ∧ ds.length = xs.length) := by
  obtain ⟨A, len, cap, n, rfl, hl, hm, hr, hx1, hx2⟩ := open_elems Tryz.underlying25 cRErr (by decide) h
  by_cases h0 : 0 < len
  · obtain ⟨b, off, rfl, hb, hc⟩ := hr h0
    obtain ⟨l, hll, hp⟩ := list_of (fun i (y : Err) => (∀ j, j < 6 → w.cell? ⟨b, off + i * 6 + j, none⟩ = (EE.f y)[j]?) ∧ 0 ≤ y.kind ∧ y.kind ≤ 255) len fun i hi => by
      obtain ⟨cs', y, _, h2, h3⟩ := hc i hi
      obtain ⟨z, rfl, hz⟩ := open_err h3
      exact ⟨z, h2, hz⟩
    refine ⟨_, l, rfl, ⟨some ⟨b, off, none⟩, cap, by rw [hll], by omega, maxLen_int (by omega), fun _ => ⟨b, off, rfl, hb, fun i hi j u hu => ?_⟩⟩, fun y hy => ?_, ?_⟩
    · have hj := (List.getElem?_eq_some_iff.1 hu).1
      rw [EE.len] at hj
      rw [← hu]; exact (hp i hi).1 j hj
    · obtain ⟨i, hi, rfl⟩ := List.mem_iff_getElem.1 hy
      exact (hp i hi).2
    · rcases hx2 with ⟨_, h⟩ | ⟨ds, sp, h⟩
      · omega
      · exact .inr ⟨ds, sp, h, by rw [hx1 ds sp h, hll]⟩
  · obtain rfl : len = 0 := by omega
    exact ⟨_, [], rfl, ⟨A, cap, rfl, Nat.zero_le _, by simp, fun h => by simp at h⟩, by simp, .inl rfl⟩
set_option maxRecDepth 100000 in
theorem open_parts {fuel : Nat} {cs : List Value} {x : DataW H × List MemPlace} (h : DataW.trod enc Tryz.prog w 0 spare held fuel 22 cs = some x) : ∃ v ps, cs = [v] ∧ RdParts w v ps := by
  obtain ⟨A, len, cap, n, rfl, hl, hm, hr, -⟩ := open_elems Tryz.underlying22 cRPart (by decide) h
  by_cases h0 : 0 < len
  · obtain ⟨b, off, rfl, hb, hc⟩ := hr h0
    obtain ⟨l, hll, hp⟩ := list_of (fun i (y : Part) => w.cell? ⟨b, off + i * 2, none⟩ = some (.int .i64 y.day) ∧ ∃ pv, w.cell? ⟨b, off + i * 2 + 1, none⟩ = some pv ∧ RdP w pv y.paras) len fun i hi => by
      obtain ⟨cs', y, hl', h2, h3⟩ := hc i hi
      obtain ⟨xs, k, _, _, hlen, hxl, hf⟩ := DataW.trod_struct Tryz.underlying98 h3
      match cs', hl', xs, hxl with
      | [v0, v1], _, [y0, y1], _ =>
        have g0 := hf 0 _ rfl
        have g1 := hf 1 _ rfl
        simp [cInt, cRParas] at g0 g1
        obtain ⟨a, e0, -⟩ := DataW.trod_int Tryz.underlying3 g0
        obtain ⟨v, ps, e1, hps⟩ := open_paras g1
        cases e0; cases e1
        exact ⟨⟨a, ps⟩, h2 0 (by decide), v1, h2 1 (by decide), hps⟩
    exact ⟨_, l, rfl, some ⟨b, off, none⟩, cap, by rw [hll], by omega, maxLen_int (by omega), fun _ => ⟨b, off, rfl, hb, fun i hi => hp i hi⟩⟩
  · obtain rfl : len = 0 := by omega
    exact ⟨_, [], rfl, A, cap, rfl, Nat.zero_le _, by simp, fun h => by simp at h⟩
set_option maxRecDepth 100000 in
theorem open_vol {r : Reach} {b0 : Nat} {v : Value} {d : DataW H} {p : List MemPlace} (hval : Value.okWide Tryz.prog w r b0 24 v) (h : DataW.Trod enc Tryz.prog w 0 spare held 24 v d p) : ∃ x : Vol, IsVol w v x := by
  obtain ⟨cs, rfl, -⟩ := okWide_struct Tryz.underlying24 hval
  obtain ⟨fuel, h⟩ := h
  obtain ⟨xs, k, _, _, hlen, hxl, hf⟩ := DataW.trod_struct Tryz.underlying24 h
  obtain ⟨l⟩ := cs
  simp only [Value.cells] at hlen hf
  rw [cRVol] at hlen
  match l, hlen, xs, hxl with
  | [v0, v1, v2, v3, v4], _, [y0, y1, y2, y3, y4], _ =>
    have g0 := hf 0 _ rfl; have g1 := hf 1 _ rfl; have g2 := hf 2 _ rfl; have g3 := hf 3 _ rfl; have g4 := hf 4 _ rfl
    simp [cInt, cRParts] at g0 g1 g2 g3 g4
    obtain ⟨a0, e0, -⟩ := DataW.trod_int Tryz.underlying3 g0
    obtain ⟨a1, e1, -⟩ := DataW.trod_int Tryz.underlying3 g1
    obtain ⟨a2, e2, -⟩ := DataW.trod_int Tryz.underlying3 g2
    obtain ⟨a3, e3, -⟩ := DataW.trod_int Tryz.underlying3 g3
    obtain ⟨v, ps, e4, hps⟩ := open_parts g4
    cases e0; cases e1; cases e2; cases e3; cases e4
    exact ⟨⟨a0, a1, a2, a3, ps⟩, v4, rfl, hps⟩
set_option maxRecDepth 100000 in
theorem open_errata {r : Reach} {b0 : Nat} {v : Value} {d : DataW H} {p : List MemPlace} (hval : Value.okWide Tryz.prog w r b0 25 v) (h : DataW.Trod enc Tryz.prog w 0 spare held 25 v d p) :
    ∃ er, RdE w v er ∧ (er = [] ∨ ∃ ds sp, d = .slice ds sp ∧ ds.length = er.length) := by
  obtain ⟨a, len, cap, rfl⟩ := okWide_slice Tryz.underlying25 hval
  obtain ⟨fuel, h⟩ := h
  obtain ⟨v, xs, e, h1, -, h2⟩ := open_errs h
  simp [Value.cells] at e
  subst e
  exact ⟨xs, h1, h2⟩
set_option maxRecDepth 100000 in
theorem open_erratum {r : Reach} {b0 : Nat} {v : Value} {d : DataW H} {p : List MemPlace} (hval : Value.okWide Tryz.prog w r b0 27 v) (h : DataW.Trod enc Tryz.prog w 0 spare held 27 v d p) : ∃ y : Err, v = y.val := by
  obtain ⟨cs, rfl, -⟩ := okWide_struct Tryz.underlying27 hval
  obtain ⟨fuel, h⟩ := h
  obtain ⟨y, e, -⟩ := open_err h
  refine ⟨y, ?_⟩
  simp only [Value.cells, Err.val] at e ⊢
  rw [Array.toList_inj.1 e]
end
end Go.Proofs.YtjkmdpejcgepkaaGreatDoor
