/- Inserting an entry into a row of the call's own. -/
import Derived.Test.YtjkmdpejcgepkaaGreatDoorB3
import Derived.Shelf.Spec.SlicesInsertGrow
import Derived.Lib.BufferWrite
import Derived.Lib.LazyBuf
namespace Go.Proofs.YtjkmdpejcgepkaaGreatDoor
open Go.RowKit
def insAt {α : Type} (xs : List α) (i : Nat) (y : α) : List α := xs.take i ++ y :: xs.drop i
theorem flat_insAt {α : Type} (E : Enc α) (xs : List α) (i : Nat) (y : α) : flat E (insAt xs i y) = flat E (xs.take i) ++ (E.f y ++ flat E (xs.drop i)) := by
  unfold insAt; rw [flat_append, flat_cons]
theorem insAt_length {α : Type} (xs : List α) (i : Nat) (y : α) : (insAt xs i y).length = xs.length + 1 := by
  unfold insAt
  have := List.take_append_drop i xs
  have h2 : (xs.take i ++ xs.drop i).length = xs.length := by rw [this]
  simp only [List.length_append, List.length_cons] at h2 ⊢; omega
theorem heap_setCells (b : Nat) : ∀ (vs : List Value) (o : Nat) (w : World) (cur : Array Value) (e : TypeId) (fr : Nat × Nat), w.heap[b]? = some (.cells cur e fr) →
    ∃ cur', (w.setCells b o vs).heap[b]? = some (.cells cur' e fr) ∧ cur'.size = cur.size
  | [], _, _, cur, _, _, h => ⟨cur, h, rfl⟩
  | v :: r, o, w, cur, e, fr, h => by
    rw [World.setCells]
    have h1 : (w.setCell ⟨b, o, none⟩ v).heap[b]? = some (.cells (cur.setIfInBounds o v) e fr) := by
      simp [World.setCell, Array.getElem?_modify, h]
    obtain ⟨cur', h2, h3⟩ := heap_setCells b r (o + 1) _ _ e fr h1
    exact ⟨cur', h2, by rw [h3]; simp⟩
theorem Own.of_flat {α : Type} {E : Enc α} {e : TypeId} {w : World} {base g cap : Nat} {cur : Array Value} {xs : List α} (hb : base ≤ g) (hh : w.heap[g]? = some (.cells cur e (0, 0))) (h1 : xs.length ≤ cap) (h2 : cap ≤ maxLen) (h3 : cur.size = cap * E.k)
    (hr : ∀ j u, (flat E xs)[j]? = some u → w.cell? ⟨g, j, none⟩ = some u) : Own E e w base (.slice (some ⟨g, 0, none⟩) xs.length cap) xs := by
  refine ⟨flat_length E xs, .inr ⟨g, cap, cur, rfl, hb, hh, h1, h2, h3, ?_⟩⟩
  apply List.ext_getElem?
  intro j
  have hle : xs.length * E.k ≤ cur.size := by rw [h3]; exact Nat.mul_le_mul_right _ h1
  by_cases hj : j < xs.length * E.k
  · have hf : j < (flat E xs).length := by rw [flat_length]; exact hj
    have hc := hr j _ (List.getElem?_eq_getElem hf)
    rw [List.getElem?_take_of_lt hj, List.getElem?_eq_getElem hf, ← hc]
    simp [World.cell?, hh]
  · rw [List.getElem?_eq_none (by rw [List.length_take]; omega), List.getElem?_eq_none (by rw [flat_length]; omega)]
/-- copy of elements of k cells -/
theorem run_copy_k {P : Program} (w : World) (dT sT ty elem : TypeId) (k b o dLen dCap : Nat) (a : Addr) (sLen sCap : Nat) (cs : List Value)
    (hu : P.underlying dT = some (.slice elem)) (hs : (P.info? elem).map (·.size) = some k) (hn : cs.length = Nat.min sLen dLen * k)
    (hsrc : ∀ j v, cs[j]? = some v → w.cell? (a.add j) = some v) (hc : ∀ j, j < cs.length → (w.cell? ⟨b, o + j, none⟩).isSome = true) (hf : ∀ j, j < cs.length → w.frozen? ⟨b, o + j, none⟩ = false) (h1 : ∀ v ∈ cs, v.oneCell' = true) :
    (Builtin.copy_ #[dT, sT] ty #[.slice (some ⟨b, o, none⟩) dLen dCap, .slice (some a) sLen sCap]).run P w = .ok (goInt (Nat.min sLen dLen)) (w.setCells b o cs) := by
  have hl := run_loadCells_list (P := P) w a cs hsrc
  have hst := run_storeCells_cells (P := P) b o cs 0 w (by simpa using hc) (by simpa using hf) h1
  cases hq : P.info? elem with
  | none => simp [hq] at hs
  | some i =>
    have hi : i.size = k := by simpa [hq] using hs
    simp [Builtin.copy_, run_underlying hu, Builtin.lenOf, Builtin.firstCells, sizeOf, typeInfo, hq, hi, ← hn, hl, hst]
theorem Tryz.infoEntry : (Tryz.prog.info? 95).map (fun i => (i.zero, i.size, i.bytes)) = some (some (.agg #[.int .i64 0, .string ⟨#[]⟩, .bool false]), 3, 32) := by kernel_rfl
def InsPost (base : Nat) (v : Value) (xs : List Entry) (i : Nat) (y : Entry) (w : World) (e : Ending) (w' : World) : Prop :=
  ∃ v1, e = .returned v1 ∧ Own EN 95 w' base v1 (insAt xs i y) ∧ w.grownBy w' v.ownBlock ∧ Below base w w' ∧ (v1.ownBlock = v.ownBlock ∨ ∀ b, v1.ownBlock = some b → w.heap.size ≤ b)
set_option maxHeartbeats 2000000 in
theorem insert_end (base : Nat) (v : Value) (xs : List Entry) (y : Entry) (w : World) (vb : Nat) (hO : Own EN 95 w base v xs) (hl : xs.length ≤ 100000) (hbase : base ≤ w.heap.size)
    (hvb : w.heap[vb]? = some (.cells (EN.f y).toArray 95 (0, 0))) : Calls Tryz.prog 82 #[v, .int .i64 xs.length, .slice (some ⟨vb, 0, none⟩) 1 1] w (InsPost base v xs xs.length y w) := by
  have hR : Rd EN.f EN.k w (.slice (some ⟨vb, 0, none⟩) 1 1) [y] := by
    refine ⟨_, 1, rfl, by simp, by simp, fun _ => ⟨_, _, rfl, (Array.getElem?_eq_some_iff.1 hvb).1, fun j hj i u hu => ?_⟩⟩
    obtain rfl : j = 0 := by simpa using hj
    simp only [List.getElem_cons_zero] at hu
    simp [World.cell?, hvb, hu]
  have hpost : ∀ v1 w1, Own EN 95 w1 base v1 (xs ++ [y]) → w.grownBy w1 v.ownBlock → Below base w w1 → (v1.ownBlock = v.ownBlock ∨ v1.ownBlock = some w.heap.size) → InsPost base v xs xs.length y w (.returned v1) w1 := by
    intro v1 w1 h1 h2 h3 h4
    refine ⟨v1, rfl, by simpa [insAt] using h1, h2, h3, h4.imp id ?_⟩
    intro h b hb
    rw [h] at hb; cases hb; exact Nat.le_refl _
  have hcase : v = .slice none 0 0 ∧ xs.length = 0 ∨ ∃ g cap, v = .slice (some ⟨g, 0, none⟩) xs.length cap ∧ xs.length ≤ cap ∧ cap ≤ maxLen := by
    rcases hO.2 with ⟨h1, h2⟩ | ⟨g, cap, cur, h1, _, _, h3, h4, _⟩
    · exact .inl ⟨h1, h2⟩
    · exact .inr ⟨g, cap, h1, h3, h4⟩
  generalize hQ : InsPost base v xs xs.length y w = Q at hpost ⊢
  clear hQ
  rcases hcase with ⟨rfl, hn⟩ | ⟨g, cap, rfl, hcap, hmax⟩
  · obtain rfl : xs = [] := List.eq_nil_of_length_eq_zero hn
    go_enter Tryz.func82, Tryz.ntmps82
    go_wp2_with (at_builtin; refine wp_append_rd EN base rfl _ _ 93 95 _ 32 rfl Tryz.underlying93 Tryz.infoEntry rfl (by decide) _ _ [] [y] rfl rfl hO hR hbase (by simp) ?_; intro v1 w1 hO1 hg1 hb1 hat1)
    exact hpost _ _ hO1 hg1 hb1 hat1
  · unfold maxLen at hmax
    go_enter Tryz.func82, Tryz.ntmps82
    go_wp2_with (at_builtin; refine wp_append_rd EN base rfl _ _ 93 95 _ 32 rfl Tryz.underlying93 Tryz.infoEntry rfl (by decide) _ _ xs [y] rfl rfl hO hR hbase (by simp; omega) ?_; intro v1 w1 hO1 hg1 hb1 hat1)
    all_goals exact hpost _ _ hO1 hg1 hb1 hat1
set_option maxRecDepth 100000 in
set_option maxHeartbeats 4000000 in
theorem insert_room (base g cap : Nat) (xs : List Entry) (i : Nat) (y : Entry) (w : World) (vb : Nat) (hO : Own EN 95 w base (.slice (some ⟨g, 0, none⟩) xs.length cap) xs) (hi : i < xs.length) (hl : xs.length ≤ 100000) (hcap : xs.length + 1 ≤ cap)
    (hvb : w.heap[vb]? = some (.cells (EN.f y).toArray 95 (0, 0))) (hne : vb ≠ g) : Calls Tryz.prog 82 #[.slice (some ⟨g, 0, none⟩) xs.length cap, .int .i64 i, .slice (some ⟨vb, 0, none⟩) 1 1] w fun e w' =>
      e = .returned (.slice (some ⟨g, 0, none⟩) (xs.length + 1) cap) ∧ w' = (w.drew.setCells g ((i + 1) * 3) (flat EN (xs.drop i))).setCells g (i * 3) (EN.f y) := by
  obtain ⟨cur, hb, hh, hmax, hsz⟩ : ∃ cur, base ≤ g ∧ w.heap[g]? = some (.cells cur 95 (0, 0)) ∧ cap ≤ maxLen ∧ cur.size = cap * 3 := by
    rcases hO.2 with ⟨h1, _⟩ | ⟨g', cap', cur, h1, h2, h3, _, h4, h5, _⟩
    · cases h1
    · simp only [Value.slice.injEq, Option.some.injEq, Addr.mk.injEq] at h1
      obtain ⟨⟨rfl, -, -⟩, -, rfl⟩ := h1
      exact ⟨cur, h2, h3, h4, h5⟩
  unfold maxLen at hmax
  have hcs : ∀ j u, (flat EN xs)[j]? = some u → w.cell? ⟨g, j, none⟩ = some u := fun j u hu => by
    have := World.ownsRow.cells hO (g := g) rfl j u hu
    have ha : (⟨g, 0, none⟩ : Addr).add j = ⟨g, j, none⟩ := by unfold Addr.add; split <;> simp_all
    rwa [ha] at this
  have hsp : ∀ j, j < cap * 3 → (w.cell? ⟨g, j, none⟩).isSome = true := fun j hj => by simp [World.cell?, hh, hsz, hj]
  have hfz : ∀ j, w.frozen? ⟨g, j, none⟩ = false := fun j => by simp [World.frozen?, hh]
  have hvs : ∀ j v, (EN.f y)[j]? = some v → w.cell? ⟨vb, j, none⟩ = some v := fun j v h => by simp [World.cell?, hvb, h]
  have hsa : w.shape? vb = some (95, 3) := by simp [World.shape?, hvb, EN]
  have hsb : w.shape? g = some (95, cap * 3) := by simp [World.shape?, hh, hsz]
  have hfa : w.frozen? ⟨vb, 0, none⟩ = false := by simp [World.frozen?, hvb]
  have hfe : w.frozen? ⟨vb, 3, none⟩ = false := by simp [World.frozen?, hvb]
  have hsz3 : (Tryz.prog.info? 95).map (·.size) = some 3 := by kernel_rfl
  have hc63 : cap ≤ 9223372036854775807 := by omega
  have hcl : (flat EN (xs.drop i)).length = (xs.length - i) * 3 := by rw [flat_length, List.length_drop]; rfl
  have hyl : (EN.f y).length = 3 := rfl
  have hov : ∀ lb cb, (callFunc 106 #[.slice (some ⟨vb, 0, none⟩) 1 1, .slice (some ⟨g, (i + 1) * 3, none⟩) lb cb]).run Tryz.prog w = .ok (.value (.bool false)) w := fun lb cb => by
    rw [run_callFunc_extern (fn := Tryz.f106) Tryz.func106 (by kernel_rfl) (by kernel_rfl) (by kernel_rfl) (e := Extern.SlicesOverlaps.overlaps #[93, 93] #[4]) (by kernel_rfl),
      Lib.run_overlaps_apart w 93 4 95 Tryz.underlying93 3 (by intro w; obtain ⟨i0, hi0, h0⟩ := Option.map_eq_some_iff.1 hsz3; simp [sizeOf, typeInfo, hi0, h0]) ⟨vb, 0, none⟩ ⟨g, (i + 1) * 3, none⟩ 1 1 lb cb hne _ _ _ _ hsa hsb (by omega) hfa hfe]
    rfl
  have hcp1 : ∀ ty dc sc, (Builtin.copy_ #[93, 93] ty #[.slice (some ⟨g, (i + 1) * 3, none⟩) (xs.length - i) dc, .slice (some ⟨g, i * 3, none⟩) (xs.length + 1 - i) sc]).run Tryz.prog w.drew = .ok (goInt (xs.length - i : Nat)) (w.drew.setCells g ((i + 1) * 3) (flat EN (xs.drop i))) := fun ty dc sc => by
    have hm : Nat.min (xs.length + 1 - i) (xs.length - i) = xs.length - i := by simp only [Nat.min_def]; split <;> omega
    have h := run_copy_k (P := Tryz.prog) w.drew 93 93 ty 95 3 g ((i + 1) * 3) (xs.length - i) dc ⟨g, i * 3, none⟩ (xs.length + 1 - i) sc (flat EN (xs.drop i)) Tryz.underlying93 hsz3 (by rw [hm, hcl])
      (fun j v hj => by
        rw [Addr.add_lit]
        refine hcs (i * 3 + j) v ?_
        have e : flat EN xs = flat EN (xs.take i) ++ flat EN (xs.drop i) := by rw [← flat_append, List.take_append_drop]
        have hlt : (flat EN (xs.take i)).length = i * 3 := by rw [flat_length, List.length_take, Nat.min_eq_left (by omega)]; rfl
        rw [e, List.getElem?_append_right (by omega), hlt, Nat.add_sub_cancel_left]
        exact hj)
      (fun j hj => by rw [hcl] at hj; exact hsp _ (by omega)) (fun j hj => hfz _) (fun v hv => flat_one EN _ v hv)
    rw [hm] at h
    exact h
  have hsp1 : ∀ k, k < cap * 3 → ((w.drew.setCells g ((i + 1) * 3) (flat EN (xs.drop i))).cell? ⟨g, k, none⟩).isSome = true := fun k hk =>
    isSome_setCells g _ _ _ (fun j hj => by rw [hcl] at hj; exact hsp _ (by omega)) _ (hsp k hk)
  have hcp2 : ∀ ty dc, (Builtin.copy_ #[93, 93] ty #[.slice (some ⟨g, i * 3, none⟩) (xs.length + 1 - i) dc, .slice (some ⟨vb, 0, none⟩) 1 1]).run Tryz.prog (w.drew.setCells g ((i + 1) * 3) (flat EN (xs.drop i))) = .ok (goInt 1) ((w.drew.setCells g ((i + 1) * 3) (flat EN (xs.drop i))).setCells g (i * 3) (EN.f y)) := fun ty dc => by
    have hm : Nat.min 1 (xs.length + 1 - i) = 1 := by simp only [Nat.min_def]; split <;> omega
    have h := run_copy_k (P := Tryz.prog) (w.drew.setCells g ((i + 1) * 3) (flat EN (xs.drop i))) 93 93 ty 95 3 g (i * 3) (xs.length + 1 - i) dc ⟨vb, 0, none⟩ 1 1 (EN.f y) Tryz.underlying93 hsz3 (by rw [hm, hyl])
      (fun j v hj => by
        rw [Addr.add_lit, World.cell?_setCells_out g _ _ _ _ (fun h _ => absurd h hne), Nat.zero_add]
        exact hvs j v hj)
      (fun j hj => by rw [hyl] at hj; exact hsp1 _ (by omega)) (fun j hj => by rw [World.frozen?_setCells]; exact hfz _) (fun v hv => EN.one y v hv)
    rw [hm] at h
    exact h
  have hw1 : IntKind.i64.wrap ((i : Int) + 1) = (i : Int) + 1 := by rw [IntKind.wrap_i64]; omega
  have hw2 : IntKind.i64.wrap ((xs.length : Int) + 1) = (xs.length : Int) + 1 := by rw [IntKind.wrap_i64]; omega
  have hz2 : ((i : Int) == (xs.length : Int)) = false := by simp; omega
  have hz3 : decide ((cap : Int) < (xs.length : Int) + 1) = false := by simp; omega
  have hb1 : (0 : Int) ≤ (i : Int) + 1 := by omega
  have htn : ((i : Int) + 1).toNat = i + 1 := by omega
  have htm : ((xs.length : Int) + 1).toNat = xs.length + 1 := by omega
  have hin : i ≤ xs.length := by omega
  have hb2 : ¬ (cap = i + 1) := by omega
  have hb3 : (i : Int) ≤ (xs.length : Int) := by omega
  have hb4 : ¬ (cap = i) := by omega
  have hb5 : (i : Int) ≤ (xs.length : Int) + 1 := by omega
  have mixed : Tryz.prog.follows Departure.mixedOrders = true := by kernel_rfl
  clear hvb hO hh hsa hsb hfa hfe hvs hcs hsp hfz hmax hsz hl hcl
  generalize flat EN (xs.drop i) = F at hcp1 hcp2 hsp1 ⊢
  generalize EN.f y = Y at hcp2 ⊢
  generalize xs.length = n at *
  go_enter Tryz.func82, Tryz.ntmps82
  go_wp2_with (simp only [hov])
  go_region_law_o (refine step_copy_runI rfl _ _ 93 93 rfl _ _ (by simp [Act.eval, Act.put]) (by simp [Act.eval, Act.put]) (hcp1 _ _ _) ?_)
  go_wp2_with (at_builtin; refine wpList_copy_runI _ rfl _ _ 93 93 rfl _ _ rfl rfl (hcp2 _ _) ?_)
  go_ret
  exact ⟨rfl, rfl⟩
def zEntry : Value := .agg #[.int .i64 0, .string ⟨#[]⟩, .bool false]
set_option maxRecDepth 100000 in
set_option maxHeartbeats 4000000 in
theorem insert_grow (base g cap : Nat) (xs : List Entry) (i : Nat) (y : Entry) (w : World) (vb : Nat) (hO : Own EN 95 w base (.slice (some ⟨g, 0, none⟩) xs.length cap) xs) (hi : i < xs.length) (hl : xs.length ≤ 100000) (hcap : cap < xs.length + 1)
    (hvb : w.heap[vb]? = some (.cells (EN.f y).toArray 95 (0, 0))) : Calls Tryz.prog 82 #[.slice (some ⟨g, 0, none⟩) xs.length cap, .int .i64 i, .slice (some ⟨vb, 0, none⟩) 1 1] w fun e w' =>
      e = .returned (.slice (some ⟨w.heap.size, 0, none⟩) (xs.length + 1) (grownCap w (xs.length + 1) cap 95)) ∧
      w' = (((w.alloc (.cells ((flat EN (xs.take i)).toArray ++ Builtin.zeroCells zEntry.cells (xs.length + 1 - i) ++ Builtin.zeroCells zEntry.cells (grownCap w (xs.length + 1) cap 95 - (xs.length + 1))) 95)).drew.setCells w.heap.size (i * 3) (EN.f y)).drew).setCells w.heap.size ((i + 1) * 3) (flat EN (xs.drop i)) := by
  obtain ⟨cur, hb, hh, hcn⟩ : ∃ cur, base ≤ g ∧ w.heap[g]? = some (.cells cur 95 (0, 0)) ∧ cap = xs.length := by
    rcases hO.2 with ⟨h1, _⟩ | ⟨g', cap', cur, h1, h2, h3, h4, h5, _⟩
    · cases h1
    · simp only [Value.slice.injEq, Option.some.injEq, Addr.mk.injEq] at h1
      obtain ⟨⟨rfl, -, -⟩, -, rfl⟩ := h1
      exact ⟨cur, h2, h3, by omega⟩
  subst hcn
  have hgw : g < w.heap.size := (Array.getElem?_eq_some_iff.1 hh).1
  have hvw : vb < w.heap.size := (Array.getElem?_eq_some_iff.1 hvb).1
  have hcs : ∀ j u, (flat EN xs)[j]? = some u → w.cell? ⟨g, j, none⟩ = some u := fun j u hu => by
    have := World.ownsRow.cells hO (g := g) rfl j u hu
    have ha : (⟨g, 0, none⟩ : Addr).add j = ⟨g, j, none⟩ := by unfold Addr.add; split <;> simp_all
    rwa [ha] at this
  have hvs : ∀ j v, (EN.f y)[j]? = some v → w.cell? ⟨vb, j, none⟩ = some v := fun j v h => by simp [World.cell?, hvb, h]
  have hsz3 : (Tryz.prog.info? 95).map (·.size) = some 3 := by kernel_rfl
  have hcl : (flat EN (xs.drop i)).length = (xs.length - i) * 3 := by rw [flat_length, List.length_drop]; rfl
  have htl : (flat EN (xs.take i)).length = i * 3 := by rw [flat_length, List.length_take, Nat.min_eq_left (by omega)]; rfl
  have hyl : (EN.f y).length = 3 := rfl
  have hsplit : flat EN xs = flat EN (xs.take i) ++ flat EN (xs.drop i) := by rw [← flat_append, List.take_append_drop]
  obtain ⟨i0, hi0, hzz⟩ := Option.map_eq_some_iff.1 Tryz.infoEntry
  simp only [Prod.mk.injEq] at hzz
  obtain ⟨hz0, hzs, hzb⟩ := hzz
  have hold : (Builtin.firstCells i0.size i (.slice (some ⟨g, 0, none⟩) i xs.length)).run Tryz.prog w.drew = .ok (flat EN (xs.take i)).toArray w.drew := by
    rw [hzs]
    exact run_firstCells_some w.drew 3 i ⟨g, 0, none⟩ i xs.length (flat EN (xs.take i)) htl (fun j v hj => by
      rw [Addr.add_lit, Nat.zero_add]
      refine hcs j v ?_
      rw [hsplit, List.getElem?_append_left (List.getElem?_eq_some_iff.1 hj).1]
      exact hj)
  have hik : i + (xs.length + 1 - i) = xs.length + 1 := by omega
  have hkk : (xs.length : Int) + 1 - (i : Int) = ((xs.length + 1 - i : Nat) : Int) := by omega
  have hrz : ∀ ty, (Builtin.append_ #[93, 3] ty #[.slice (some ⟨g, 0, none⟩) i xs.length, .int .i64 ((xs.length : Int) + 1 - (i : Int))]).run Tryz.prog w =
      .ok (.slice (some ⟨w.heap.size, 0, none⟩) (xs.length + 1) (grownCap w (xs.length + 1) xs.length 95)) (w.drew.alloc (.cells ((flat EN (xs.take i)).toArray ++ Builtin.zeroCells zEntry.cells (xs.length + 1 - i) ++ Builtin.zeroCells zEntry.cells (grownCap w (xs.length + 1) xs.length 95 - (xs.length + 1))) 95)) := fun ty => by
    have h := Lib.run_append_grow_zeros w 93 3 ty 95 i0 zEntry .i64 .i64 Tryz.underlying93 Tryz.underlying3 hi0 hz0 (some ⟨g, 0, none⟩) i xs.length (flat EN (xs.take i)) hold (xs.length + 1 - i) (by omega) (by omega) (by omega) (by omega) (by rw [hzb]; omega) (by rw [hzb, hik]; exact growslice_fits hcap (by omega))
    rw [hik] at h
    rw [hkk]
    exact h
  obtain ⟨G, hG⟩ : ∃ G, G = grownCap w (xs.length + 1) xs.length 95 := ⟨_, rfl⟩
  obtain ⟨ROW, hROW⟩ : ∃ ROW : Array Value, ROW = (flat EN (xs.take i)).toArray ++ Builtin.zeroCells zEntry.cells (xs.length + 1 - i) ++ Builtin.zeroCells zEntry.cells (G - (xs.length + 1)) := ⟨_, rfl⟩
  rw [← hG] at hrz ⊢
  rw [← hROW] at hrz ⊢
  have hRl : (xs.length + 1) * 3 ≤ ROW.size := by
    rw [hROW]
    simp [Builtin.zeroCells, Value.cells, htl, zEntry]
    omega
  obtain ⟨W1, hW1⟩ : ∃ W1, W1 = w.drew.alloc (.cells ROW 95) := ⟨_, rfl⟩
  rw [← hW1] at hrz
  have hN : ∀ j, j < (xs.length + 1) * 3 → (W1.cell? ⟨w.heap.size, j, none⟩).isSome = true := fun j hj => by
    rw [hW1, World.cell?_alloc_at (w := w.drew) ROW _ w.heap.size j rfl, Array.getElem?_eq_getElem (by omega)]; rfl
  have hNf : ∀ j, W1.frozen? ⟨w.heap.size, j, none⟩ = false := fun j => by rw [hW1]; exact World.frozen?_alloc_at (w := w.drew) ROW _ w.heap.size j rfl
  have hOb : ∀ j v, w.cell? ⟨g, j, none⟩ = some v → W1.cell? ⟨g, j, none⟩ = some v := fun j v h => by rw [hW1, World.cell?_alloc_past (w := w.drew) _ g j hgw]; exact h
  have hOv : ∀ j v, w.cell? ⟨vb, j, none⟩ = some v → W1.cell? ⟨vb, j, none⟩ = some v := fun j v h => by rw [hW1, World.cell?_alloc_past (w := w.drew) _ vb j hvw]; exact h
  have hcpA : ∀ (W : World), (∀ x, W.cell? x = W1.cell? x) → (∀ x, W.frozen? x = W1.frozen? x) → ∀ ty dc, (Builtin.copy_ #[93, 93] ty #[.slice (some ⟨w.heap.size, i * 3, none⟩) (xs.length + 1 - i) dc, .slice (some ⟨vb, 0, none⟩) 1 1]).run Tryz.prog W = .ok (goInt 1) (W.setCells w.heap.size (i * 3) (EN.f y)) := fun W hWc hWf ty dc => by
    have hm : Nat.min 1 (xs.length + 1 - i) = 1 := by simp only [Nat.min_def]; split <;> omega
    have h := run_copy_k (P := Tryz.prog) W 93 93 ty 95 3 w.heap.size (i * 3) (xs.length + 1 - i) dc ⟨vb, 0, none⟩ 1 1 (EN.f y) Tryz.underlying93 hsz3 (by rw [hm, hyl])
      (fun j v hj => by rw [Addr.add_lit, hWc, Nat.zero_add]; exact hOv _ v (hvs j v hj))
      (fun j hj => by rw [hWc]; rw [hyl] at hj; exact hN _ (by omega)) (fun j hj => by rw [hWf]; exact hNf _) (fun v hv => EN.one y v hv)
    rw [hm] at h
    exact h
  have hGn : xs.length + 1 ≤ G := by rw [hG]; exact grownCap_ge w _ _ _
  have hG63 : G ≤ 9223372036854775807 := by
    have := grownCap_le_maxLen w (xs.length + 1) xs.length 95 (by unfold maxLen; omega)
    rw [← hG] at this
    unfold maxLen at this
    omega
  have hbN : g ≠ w.heap.size := by omega
  have hcpB : ∀ (W : World), (∀ x, W.cell? x = (W1.setCells w.heap.size (i * 3) (EN.f y)).cell? x) → (∀ x, W.frozen? x = (W1.setCells w.heap.size (i * 3) (EN.f y)).frozen? x) → ∀ ty dc sc, (Builtin.copy_ #[93, 93] ty #[.slice (some ⟨w.heap.size, (i + 1) * 3, none⟩) (xs.length - i) dc, .slice (some ⟨g, i * 3, none⟩) (xs.length - i) sc]).run Tryz.prog W = .ok (goInt (xs.length - i : Nat)) (W.setCells w.heap.size ((i + 1) * 3) (flat EN (xs.drop i))) := fun W hWc hWf ty dc sc => by
    have hm : Nat.min (xs.length - i) (xs.length - i) = xs.length - i := Nat.min_self _
    have h := run_copy_k (P := Tryz.prog) W 93 93 ty 95 3 w.heap.size ((i + 1) * 3) (xs.length - i) dc ⟨g, i * 3, none⟩ (xs.length - i) sc (flat EN (xs.drop i)) Tryz.underlying93 hsz3 (by rw [hm, hcl])
      (fun j v hj => by
        rw [Addr.add_lit, hWc, World.cell?_setCells_out _ _ _ _ _ (fun h _ => absurd h hbN)]
        refine hOb _ v (hcs (i * 3 + j) v ?_)
        rw [hsplit, List.getElem?_append_right (by omega), htl, Nat.add_sub_cancel_left]
        exact hj)
      (fun j hj => by rw [hWc]; rw [hcl] at hj; exact isSome_setCells _ _ _ _ (fun t ht => by rw [hyl] at ht; exact hN _ (by omega)) _ (hN _ (by omega)))
      (fun j hj => by rw [hWf, World.frozen?_setCells]; exact hNf _) (fun v hv => flat_one EN _ v hv)
    rw [hm] at h
    exact h
  subst hW1
  have hE1 : ∀ x, ((w.alloc (.cells ROW 95)).drew).cell? x = (w.drew.alloc (.cells ROW 95)).cell? x := fun x => rfl
  have hE2 : ∀ x, ((w.alloc (.cells ROW 95)).drew).frozen? x = (w.drew.alloc (.cells ROW 95)).frozen? x := fun x => rfl
  have hF1 : ∀ x, (((w.alloc (.cells ROW 95)).drew.setCells w.heap.size (i * 3) (EN.f y)).drew).cell? x = ((w.drew.alloc (.cells ROW 95)).setCells w.heap.size (i * 3) (EN.f y)).cell? x := fun x => rfl
  have hF2 : ∀ x, (((w.alloc (.cells ROW 95)).drew.setCells w.heap.size (i * 3) (EN.f y)).drew).frozen? x = ((w.drew.alloc (.cells ROW 95)).setCells w.heap.size (i * 3) (EN.f y)).frozen? x := fun x => rfl
  have hw1 : IntKind.i64.wrap ((i : Int) + 1) = (i : Int) + 1 := by rw [IntKind.wrap_i64]; omega
  have hw2 : IntKind.i64.wrap ((xs.length : Int) + 1) = (xs.length : Int) + 1 := by rw [IntKind.wrap_i64]; omega
  have hz2 : ((i : Int) == (xs.length : Int)) = false := by simp; omega
  have hz3 : decide ((xs.length : Int) < (xs.length : Int) + 1) = true := by simp; omega
  have hb1 : (0 : Int) ≤ (i : Int) + 1 := by omega
  have htn : ((i : Int) + 1).toNat = i + 1 := by omega
  have htm : ((xs.length : Int) + 1).toNat = xs.length + 1 := by omega
  have hin : i ≤ xs.length := by omega
  have hb2 : ¬ (G = i + 1) := by omega
  have hb3 : (i : Int) ≤ (xs.length : Int) := by omega
  have hb4 : ¬ (G = i) := by omega
  have hb6 : ¬ (xs.length = i) := by omega
  have hb5 : (i : Int) ≤ (xs.length : Int) + 1 := by omega
  have mixed : Tryz.prog.follows Departure.mixedOrders = true := by kernel_rfl
  clear hO hh hcs hvs hcl htl hyl hsplit hi0 hold hzs hzb hz0 hik hkk hROW hG hRl hN hNf hOb hOv hcap hvb hb hl
  generalize flat EN (xs.drop i) = F at hcpB ⊢
  generalize EN.f y = Y at hcpA hcpB hF1 hF2 ⊢
  generalize xs.length = n at *
  go_enter Tryz.func82, Tryz.ntmps82
  go_wp2_with (first
    | (at_builtin; refine Lib.wpList_append_run _ rfl _ _ _ _ rfl _ _ rfl rfl _ _ (hrz _) ?_)
    | (at_builtin; refine wpList_copy_runI _ rfl _ _ 93 93 rfl _ _ rfl rfl (hcpA _ hE1 hE2 _ _) ?_)
    | (at_builtin; refine wpList_copy_runI _ rfl _ _ 93 93 rfl _ _ rfl rfl (hcpB _ (fun _ => rfl) (fun _ => rfl) _ _ _) ?_))
  go_region_law_o (refine step_copy_runI rfl _ _ 93 93 rfl (.slice (some ⟨w.heap.size, (i + 1) * 3, none⟩) (n - i) (G - (i + 1))) (.slice (some ⟨g, i * 3, none⟩) (n - i) (n - i)) (by simp [Act.eval, Act.put]) (by simp [Act.eval, Act.put]) (hcpB _ hF1 hF2 3 (G - (i + 1)) (n - i)) ?_)
  go_wp2
  go_ret
  exact ⟨rfl, rfl⟩
theorem grownBy_setCells (b : Nat) : ∀ (vs : List Value) (o : Nat) (w0 w : World), w0.grownBy w (some b) → w0.grownBy (w.setCells b o vs) (some b)
  | [], _, _, _, h => h
  | v :: r, o, w0, w, h => grownBy_setCells b r (o + 1) w0 _ (h.trans (Lib.grownBy_setCell w b o v))
theorem flat_ins_cells (xs : List Entry) (i : Nat) (y : Entry) (hi : i ≤ xs.length) (W : World) (b : Nat) (h0 : ∀ j u, (flat EN (xs.take i))[j]? = some u → W.cell? ⟨b, j, none⟩ = some u)
    (h1 : ∀ j u, (EN.f y)[j]? = some u → W.cell? ⟨b, i * 3 + j, none⟩ = some u) (h2 : ∀ j u, (flat EN (xs.drop i))[j]? = some u → W.cell? ⟨b, (i + 1) * 3 + j, none⟩ = some u) :
    ∀ j u, (flat EN (insAt xs i y))[j]? = some u → W.cell? ⟨b, j, none⟩ = some u := by
  intro j u hu
  have htl : (flat EN (xs.take i)).length = i * 3 := by rw [flat_length, List.length_take, Nat.min_eq_left hi]; rfl
  have hyl : (EN.f y).length = 3 := rfl
  rw [flat_insAt] at hu
  by_cases q0 : j < i * 3
  · rw [List.getElem?_append_left (by omega)] at hu
    exact h0 j u hu
  · rw [List.getElem?_append_right (by omega), htl] at hu
    by_cases q1 : j - i * 3 < 3
    · rw [List.getElem?_append_left (by omega)] at hu
      have := h1 _ u hu
      rwa [show i * 3 + (j - i * 3) = j by omega] at this
    · rw [List.getElem?_append_right (by omega), hyl] at hu
      have := h2 _ u hu
      rwa [show (i + 1) * 3 + (j - i * 3 - 3) = j by omega] at this
theorem setCells_out' (b o : Nat) (vs : List Value) (W : World) (q : Nat) (h : q < o ∨ o + vs.length ≤ q) : (W.setCells b o vs).cell? ⟨b, q, none⟩ = W.cell? ⟨b, q, none⟩ :=
  World.cell?_setCells_out b vs o W ⟨b, q, none⟩ (fun _ _ => h)
theorem setCells_in' (b o : Nat) (vs : List Value) (W : World) (h : ∀ j, j < vs.length → (W.cell? ⟨b, o + j, none⟩).isSome = true) : ∀ j u, vs[j]? = some u → (W.setCells b o vs).cell? ⟨b, o + j, none⟩ = some u := by
  intro j u hu
  obtain ⟨hj, rfl⟩ := List.getElem?_eq_some_iff.1 hu
  exact World.cell?_setCells_in b vs o W h j hj
theorem insert_any (base : Nat) (v : Value) (xs : List Entry) (i : Nat) (y : Entry) (w : World) (vb : Nat) (hO : Own EN 95 w base v xs) (hi : i ≤ xs.length) (hl : xs.length ≤ 100000) (hbase : base ≤ w.heap.size)
    (hvb : w.heap[vb]? = some (.cells (EN.f y).toArray 95 (0, 0))) (hne : v.ownBlock ≠ some vb) : Calls Tryz.prog 82 #[v, .int .i64 i, .slice (some ⟨vb, 0, none⟩) 1 1] w (InsPost base v xs i y w) := by
  by_cases he : i = xs.length
  · subst he
    exact insert_end base v xs y w vb hO hl hbase hvb
  rcases id hO.2 with ⟨_, hn⟩ | ⟨g, cap, cur, rfl, hb, hh, hnc, hmax, hsz, hpre⟩
  · omega
  have hcl : (flat EN (xs.drop i)).length = (xs.length - i) * 3 := by rw [flat_length, List.length_drop]; rfl
  have htl : (flat EN (xs.take i)).length = i * 3 := by rw [flat_length, List.length_take, Nat.min_eq_left hi]; rfl
  have hyl : (EN.f y).length = 3 := rfl
  have hk3 : EN.k = 3 := rfl
  rw [hk3] at hsz
  have hsplit : flat EN xs = flat EN (xs.take i) ++ flat EN (xs.drop i) := by rw [← flat_append, List.take_append_drop]
  have hcs : ∀ j u, (flat EN (xs.take i))[j]? = some u → w.cell? ⟨g, j, none⟩ = some u := fun j u hu => by
    have := World.ownsRow.cells hO (g := g) rfl j u (by rw [hsplit, List.getElem?_append_left (List.getElem?_eq_some_iff.1 hu).1]; exact hu)
    have ha : (⟨g, 0, none⟩ : Addr).add j = ⟨g, j, none⟩ := by unfold Addr.add; split <;> simp_all
    rwa [ha] at this
  by_cases hroom : xs.length + 1 ≤ cap
  · have hvg : vb ≠ g := fun e => hne (by rw [e]; rfl)
    refine (insert_room base g cap xs i y w vb hO (by omega) hl hroom hvb hvg).mono ?_
    rintro e w' ⟨rfl, rfl⟩
    have hsp : ∀ j, j < cap * 3 → (w.drew.cell? ⟨g, j, none⟩).isSome = true := fun j hj => by
      show (w.cell? ⟨g, j, none⟩).isSome = true
      simp [World.cell?, hh, hsz, hj]
    obtain ⟨cur1, q1, q2⟩ := heap_setCells g (flat EN (xs.drop i)) ((i + 1) * 3) w.drew cur 95 (0, 0) hh
    obtain ⟨cur2, q3, q4⟩ := heap_setCells g (EN.f y) (i * 3) _ cur1 95 (0, 0) q1
    have hg : w.grownBy ((w.drew.setCells g ((i + 1) * 3) (flat EN (xs.drop i))).setCells g (i * 3) (EN.f y)) (some g) :=
      grownBy_setCells g _ _ _ _ (grownBy_setCells g _ _ _ _ ⟨rfl, rfl, rfl, Nat.le_refl _, fun _ _ _ => rfl⟩)
    refine ⟨_, rfl, ?_, hg, (Below.refl base w).grown hg hbase (fun k e => by cases e; exact hb), .inl rfl⟩
    rw [← insAt_length xs i y]
    refine Own.of_flat hb q3 (by rw [insAt_length]; exact hroom) hmax (by rw [q4, q2, hsz]; rfl) (flat_ins_cells xs i y hi _ g ?_ ?_ ?_)
    · intro j u hu
      have hj : j < i * 3 := by rw [← htl]; exact (List.getElem?_eq_some_iff.1 hu).1
      rw [setCells_out' _ _ _ _ _ (by omega), setCells_out' _ _ _ _ _ (by omega)]
      exact hcs j u hu
    · refine setCells_in' _ _ _ _ fun j hj => ?_
      rw [hyl] at hj
      rw [setCells_out' _ _ _ _ _ (by omega)]
      exact hsp _ (by omega)
    · intro j u hu
      have hj : j < (xs.length - i) * 3 := by rw [← hcl]; exact (List.getElem?_eq_some_iff.1 hu).1
      rw [setCells_out' _ _ _ _ _ (by rw [hyl]; omega)]
      refine setCells_in' _ _ _ _ (fun j hj => ?_) j u hu
      rw [hcl] at hj
      exact hsp _ (by omega)
  · refine (insert_grow base g cap xs i y w vb hO (by omega) hl (by omega) hvb).mono ?_
    rintro e w' ⟨rfl, rfl⟩
    have hGn : xs.length + 1 ≤ grownCap w (xs.length + 1) cap 95 := grownCap_ge w _ _ _
    have hGm : grownCap w (xs.length + 1) cap 95 ≤ maxLen := grownCap_le_maxLen w (xs.length + 1) cap 95 (by unfold maxLen; omega)
    generalize grownCap w (xs.length + 1) cap 95 = G at hGn hGm ⊢
    obtain ⟨ROW, hROW⟩ : ∃ ROW : Array Value, ROW = (flat EN (xs.take i)).toArray ++ Builtin.zeroCells zEntry.cells (xs.length + 1 - i) ++ Builtin.zeroCells zEntry.cells (G - (xs.length + 1)) := ⟨_, rfl⟩
    rw [← hROW]
    have hRs : ROW.size = G * 3 := by
      rw [hROW]
      simp [Builtin.zeroCells, Value.cells, htl, zEntry]
      omega
    have hRp : ∀ j u, (flat EN (xs.take i))[j]? = some u → ROW[j]? = some u := fun j u hu => by
      rw [hROW, Array.append_assoc, Array.getElem?_append_left (by simpa using (List.getElem?_eq_some_iff.1 hu).1)]
      simpa using hu
    clear hROW
    have hN : ∀ j, j < G * 3 → ((w.alloc (.cells ROW 95)).drew.cell? ⟨w.heap.size, j, none⟩).isSome = true := fun j hj => by
      show ((w.alloc (.cells ROW 95)).cell? ⟨w.heap.size, j, none⟩).isSome = true
      rw [World.cell?_alloc_new, Array.getElem?_eq_getElem (by omega)]; rfl
    have h0 : (w.alloc (.cells ROW 95)).drew.heap[w.heap.size]? = some (.cells ROW 95 (0, 0)) := World.alloc_heap_new w _
    obtain ⟨cur1, q1, q2⟩ := heap_setCells w.heap.size (EN.f y) (i * 3) _ ROW 95 (0, 0) h0
    obtain ⟨cur2, q3, q4⟩ := heap_setCells w.heap.size (flat EN (xs.drop i)) ((i + 1) * 3) ((w.alloc (.cells ROW 95)).drew.setCells w.heap.size (i * 3) (EN.f y)).drew cur1 95 (0, 0) q1
    have hB0 : Below w.heap.size w (w.alloc (.cells ROW 95)) := (Below.refl _ _).alloc (Nat.le_refl _) _
    have hB : Below w.heap.size w ((((w.alloc (.cells ROW 95)).drew.setCells w.heap.size (i * 3) (EN.f y)).drew).setCells w.heap.size ((i + 1) * 3) (flat EN (xs.drop i))) :=
      Go.below_setCells (Nat.le_refl _) _ _ _ ((Go.below_setCells (Nat.le_refl _) _ _ _ (hB0.drewN 1)).drewN 1)
    refine ⟨_, rfl, ?_, grownBy_of_below hB _, hB.mono hbase, .inr fun b e => by cases e; exact Nat.le_refl _⟩
    rw [← insAt_length xs i y]
    refine Own.of_flat hbase q3 (by rw [insAt_length]; exact hGn) hGm (by rw [q4, q2, hRs]; rfl) (flat_ins_cells xs i y hi _ _ ?_ ?_ ?_)
    · intro j u hu
      have hj : j < i * 3 := by rw [← htl]; exact (List.getElem?_eq_some_iff.1 hu).1
      rw [setCells_out' _ _ _ _ _ (by omega)]
      show ((w.alloc (.cells ROW 95)).drew.setCells w.heap.size (i * 3) (EN.f y)).cell? _ = _
      rw [setCells_out' _ _ _ _ _ (by omega)]
      show (w.alloc (.cells ROW 95)).cell? _ = _
      rw [World.cell?_alloc_new]
      exact hRp j u hu
    · intro j u hu
      have hj : j < 3 := (List.getElem?_eq_some_iff.1 hu).1
      rw [setCells_out' _ _ _ _ _ (by omega)]
      refine setCells_in' _ _ _ _ (fun j hj => ?_) j u hu
      rw [hyl] at hj
      exact hN _ (by omega)
    · refine setCells_in' _ _ _ _ fun j hj => ?_
      rw [hcl] at hj
      show (((w.alloc (.cells ROW 95)).drew.setCells w.heap.size (i * 3) (EN.f y)).cell? _).isSome = true
      rw [setCells_out' _ _ _ _ _ (by rw [hyl]; omega)]
      exact hN _ (by omega)
end Go.Proofs.YtjkmdpejcgepkaaGreatDoor
