/- parse: a citation is read. -/
import Derived.Test.YtjkmdpejcgepkaaGreatDoorD4
namespace Go.Proofs.YtjkmdpejcgepkaaGreatDoor
open Go.RowKit
def three (st : Int) (e1 e2 : List UInt8) (r : List UInt8) : Option (Int × Int × Int × Int) :=
  (numC e1 r).bind fun p => (numC e2 p.2).bind fun q => (numC [] q.2).map fun s => (st, p.1, q.1, s.1)
def parse0 (c : List UInt8) : Option (Int × Int × Int × Int) :=
  if Lib.hasPrefix c bVol.data.toList = false then (numC bAt.data.toList c).bind fun p => (numC [] p.2).map fun q => (2, p.1, q.1, 0)
  else if Lib.contains c [99, 111, 108, 46, 32] = true then three 0 bCol.data.toList bL.data.toList (Lib.trimPrefix c bVol.data.toList)
  else three 1 bSep.data.toList bPar.data.toList (Lib.trimPrefix c bVol.data.toList)
def parseC (c : List UInt8) : Option (Int × Int × Int × Int) := (parse0 c).bind fun p => if p.1 ≠ 0 ∧ dayB p.2.2.1 = false then none else some p
def ParsePost (w : World) (cite : ByteArray) (o : Option (Int × Int × Int × Int)) (e : Ending) (w' : World) : Prop := Below w.heap.size w w' ∧ match o with
  | some p => e = .returned (.agg #[.int .u8 p.1, .int .i64 p.2.1, .int .i64 p.2.2.1, .int .i64 p.2.2.2])
  | none => e = oddV cite
/-- the state of a parse: the rest, the text, the result -/
structure PS (w : World) (cite r : ByteArray) (W : World) : Prop where
  rest : W.heap[w.heap.size + 1 + 1]? = some (.cells #[.string r] 9 (0, 0))
  text : W.heap[w.heap.size]? = some (.cells #[.string cite] 9 (0, 0))
  res : W.heap[w.heap.size + 1]? = some (.cells #[.int .u8 0, .int .i64 0, .int .i64 0, .int .i64 0] 106 (0, 0))
  below : Below w.heap.size w W
  glob : Glob W
theorem PS.next {w W W' : World} {cite r : ByteArray} {p : Int × List UInt8} {e : Ending} (h : PS w cite r W) (hg : GB w.heap.size) (k : NumPost W w.heap.size (w.heap.size + 1 + 1) cite (some p) e W') : e = .returned (.int .i64 p.1) ∧ PS w cite (bytesOf p.2) W' := by
  obtain ⟨k1, k2, k3, k4⟩ := k
  have hl : w.heap.size + 1 + 1 < W.heap.size := (Array.getElem?_eq_some_iff.1 h.rest).1
  refine ⟨k3, k4, ?_, ?_, h.below.trans k1, h.glob.belowB hg k1⟩
  · rw [k2.block _ (by omega) (by simp; omega)]; exact h.text
  · rw [k2.block _ (by omega) (by simp)]; exact h.res
theorem PS.stop {w W W' : World} {cite r : ByteArray} {e : Ending} (h : PS w cite r W) (k : NumPost W w.heap.size (w.heap.size + 1 + 1) cite none e W') : e = oddV cite ∧ Below w.heap.size w W' := ⟨k.2.2, h.below.trans k.1⟩
theorem PS.num {w W : World} {cite r : ByteArray} (h : PS w cite r W) (hg : GB w.heap.size) (hl : r.size ≤ 100000) (en : ByteArray) :
    Calls Tryz.prog 85 #[.string en, .pointer (some ⟨w.heap.size + 1 + 1, 0, none⟩), .pointer (some ⟨w.heap.size, 0, none⟩)] W (NumPost W w.heap.size (w.heap.size + 1 + 1) cite (numC en.data.toList r.data.toList)) :=
  num_any en r cite _ _ _ W h.rest h.text (by omega) (by omega) hl h.glob hg
theorem numC_len {e r : List UInt8} {p : Int × List UInt8} (h : numC e r = some p) : p.2.length ≤ r.length := by
  unfold numC at h
  cases hw : wordOf e r with
  | none => rw [hw] at h; cases h
  | some q =>
    rw [hw] at h
    obtain ⟨v, _, rfl⟩ := Option.map_eq_some_iff.1 h
    unfold wordOf at hw
    split at hw
    · cases hw; exact Nat.le_refl _
    · split at hw
      · cases hw
        show (Lib.cut r e).2.1.length ≤ _
        unfold Lib.cut
        split
        · simp only [List.length_drop]; omega
        · simp
      · cases hw
theorem PS.num_some {w W : World} {cite r : ByteArray} (h : PS w cite r W) (hg : GB w.heap.size) (hl : r.size ≤ 100000) (en : ByteArray) (p : Int × List UInt8) (k : numC en.data.toList r.data.toList = some p) :
    Calls Tryz.prog 85 #[.string en, .pointer (some ⟨w.heap.size + 1 + 1, 0, none⟩), .pointer (some ⟨w.heap.size, 0, none⟩)] W (fun e W' => e = .returned (.int .i64 p.1) ∧ PS w cite (bytesOf p.2) W' ∧ (bytesOf p.2).size ≤ 100000) :=
  (h.num hg hl en).mono fun e W' hk => by
    rw [k] at hk
    obtain ⟨h1, h2⟩ := h.next hg hk
    refine ⟨h1, h2, ?_⟩
    have := numC_len k
    show p.2.toArray.size ≤ _
    simp only [List.size_toArray]
    have h3 : r.data.toList.length ≤ 100000 := by simpa using hl
    omega
theorem PS.num_none {w W : World} {cite r : ByteArray} (h : PS w cite r W) (hg : GB w.heap.size) (hl : r.size ≤ 100000) (en : ByteArray) (k : numC en.data.toList r.data.toList = none) :
    Calls Tryz.prog 85 #[.string en, .pointer (some ⟨w.heap.size + 1 + 1, 0, none⟩), .pointer (some ⟨w.heap.size, 0, none⟩)] W (fun e W' => e = .panicked [{ v := .iface 153 (.agg #[.string cite]), recovered := false }] ∧ Below w.heap.size w W') :=
  (h.num hg hl en).mono fun e W' hk => by
    rw [k] at hk
    exact h.stop hk
theorem ps_made (w : World) (cite r : ByteArray) (hg : Glob w) : PS w cite r (((w.alloc (.cells #[.string cite] 9)).alloc (.cells #[.int .u8 0, .int .i64 0, .int .i64 0, .int .i64 0] 106)).alloc (.cells #[.string r] 9)) := by
  have hb : Below w.heap.size w (((w.alloc (.cells #[.string cite] 9)).alloc (.cells #[.int .u8 0, .int .i64 0, .int .i64 0, .int .i64 0] 106)).alloc (.cells #[.string r] 9)) := (((Below.refl _ w).alloc (Nat.le_refl _) _).alloc (by simp) _).alloc (by simp; omega) _
  refine ⟨?_, ?_, ?_, hb, hg.below hb⟩
  · have h := World.alloc_heap_new ((w.alloc (.cells #[.string cite] 9)).alloc (.cells #[.int .u8 0, .int .i64 0, .int .i64 0, .int .i64 0] 106)) (.cells #[.string r] 9)
    rw [World.size_alloc, World.size_alloc] at h; exact h
  · rw [Below.heap_alloc _ _ _ (by simp; omega), Below.heap_alloc _ _ _ (by simp)]; exact World.alloc_heap_new w _
  · rw [Below.heap_alloc _ _ _ (by simp)]
    have h := World.alloc_heap_new (w.alloc (.cells #[.string cite] 9)) (.cells #[.int .u8 0, .int .i64 0, .int .i64 0, .int .i64 0] 106)
    rw [World.size_alloc] at h; exact h
theorem PS.cells {w W : World} {cite r : ByteArray} (h : PS w cite r W) : W.cell? ⟨w.heap.size, 0, none⟩ = some (.string cite) ∧ W.cell? ⟨w.heap.size + 1, 0, none⟩ = some (.int .u8 0) ∧ W.cell? ⟨w.heap.size + 1, 1, none⟩ = some (.int .i64 0) ∧ W.cell? ⟨w.heap.size + 1, 2, none⟩ = some (.int .i64 0) ∧ W.cell? ⟨w.heap.size + 1, 3, none⟩ = some (.int .i64 0) ∧ (∀ i, W.frozen? ⟨w.heap.size + 1, i, none⟩ = false) ∧ w.heap.size + 1 < W.heap.size :=
  ⟨by simp [World.cell?, h.text], by simp [World.cell?, h.res], by simp [World.cell?, h.res], by simp [World.cell?, h.res], by simp [World.cell?, h.res], fun i => by simp [World.frozen?, h.res], (Array.getElem?_eq_some_iff.1 h.res).1⟩
theorem set4_heap {W : World} {c : Nat} {o0 o1 o2 o3 : Value} {T : TypeId} (v0 v1 v2 v3 : Value) (h : W.heap[c]? = some (.cells #[o0, o1, o2, o3] T (0, 0))) :
    ((((W.setCell ⟨c, 0, none⟩ v0).setCell ⟨c, 1, none⟩ v1).setCell ⟨c, 2, none⟩ v2).setCell ⟨c, 3, none⟩ v3).heap[c]? = some (.cells #[v0, v1, v2, v3] T (0, 0)) := by
  simp [World.setCell, Array.getElem?_modify, h]
theorem set4_below {w W : World} {B c : Nat} (v0 v1 v2 v3 : Value) (h : Below B w W) (hc : B ≤ c) : Below B w ((((W.setCell ⟨c, 0, none⟩ v0).setCell ⟨c, 1, none⟩ v1).setCell ⟨c, 2, none⟩ v2).setCell ⟨c, 3, none⟩ v3) :=
  (((h.setCell (p := ⟨c, 0, none⟩) hc v0).setCell (p := ⟨c, 1, none⟩) hc v1).setCell (p := ⟨c, 2, none⟩) hc v2).setCell (p := ⟨c, 3, none⟩) hc v3
theorem cells4 {W : World} {c : Nat} {v0 v1 v2 v3 : Value} {T : TypeId} (h : W.heap[c]? = some (.cells #[v0, v1, v2, v3] T (0, 0))) : W.cell? ⟨c, 0, none⟩ = some v0 ∧ W.cell? ⟨c, 1, none⟩ = some v1 ∧ W.cell? ⟨c, 2, none⟩ = some v2 ∧ W.cell? ⟨c, 3, none⟩ = some v3 := by
  simp [World.cell?, h]
theorem ret_cited {W : World} {c : Nat} {v0 v1 v2 v3 : Value} (a : Act) (ht : a.tmps[2]? = some (.pointer (some ⟨c, 0, none⟩))) (h : W.heap[c]? = some (.cells #[v0, v1, v2, v3] 106 (0, 0))) : (results Tryz.f61 a.tmps).run Tryz.prog W = .ok (.agg #[v0, v1, v2, v3]) W := by
  obtain ⟨k0, k1, k2, k3⟩ := cells4 h
  simp [results, Tryz.results61, go_sem, k0, k1, k2, k3, ht]
theorem dayB_any (n : Int) (b : Bool) (h : dayB n = b) (w : World) : Calls Tryz.prog 34 #[.int .i64 n] w fun e w' => e = .returned (.bool b) ∧ w = w' := h ▸ day_any n w
set_option maxHeartbeats 4000000 in
set_option maxRecDepth 100000 in
theorem parse_any (cite : ByteArray) (w : World) (hl : cite.size ≤ 100000) (hg : Glob w) : Calls Tryz.prog 61 #[.string cite] w (ParsePost w cite (parseC cite.data.toList)) := by
  have hgb := hg.gb
  have hmf : ∀ (fn : Fn) (first cap : Array Value) (w : World), (Instr.makeFunc fn first cap).run Tryz.prog w = .ok (.func fn first cap) w := fun _ _ _ _ => rfl
  have hct : ∀ W, Glob W → Calls Tryz.prog 89 #[.string cite, .string ⟨#[99, 111, 108, 46, 32]⟩] W fun e w' => e = .returned (.bool (Lib.contains cite.data.toList [99, 111, 108, 46, 32])) ∧ w' = W := fun W hG => contains_any cite ⟨#[99, 111, 108, 46, 32]⟩ W hG (by omega)
  have hcp : ∀ W, Calls Tryz.prog 88 #[.string cite, .string ⟨#[118, 111, 108, 46, 32]⟩] W fun e w' => e = .returned (.tuple #[.string ⟨(Lib.trimPrefix cite.data.toList bVol.data.toList).toArray⟩, .bool (Lib.hasPrefix cite.data.toList bVol.data.toList)]) ∧ w' = W := fun W => cutPrefix_any cite ⟨#[118, 111, 108, 46, 32]⟩ W
  have htl : (Lib.trimPrefix cite.data.toList bVol.data.toList).length ≤ 100000 := by
    unfold Lib.trimPrefix
    split
    · simp only [List.length_drop, Array.length_toList]; exact Nat.le_trans (Nat.sub_le _ _) hl
    · simpa using hl
  have R : Hid (parse0 cite.data.toList = if Lib.hasPrefix cite.data.toList bVol.data.toList = false then (numC bAt.data.toList cite.data.toList).bind fun p => (numC [] p.2).map fun q => (2, p.1, q.1, 0)
    else if Lib.contains cite.data.toList [99, 111, 108, 46, 32] = true then three 0 bCol.data.toList bL.data.toList (Lib.trimPrefix cite.data.toList bVol.data.toList)
    else three 1 bSep.data.toList bPar.data.toList (Lib.trimPrefix cite.data.toList bVol.data.toList)) := Lib.hid rfl
  have RC : Hid (parseC cite.data.toList = (parse0 cite.data.toList).bind fun p => if p.1 ≠ 0 ∧ dayB p.2.2.1 = false then none else some p) := Lib.hid rfl
  generalize parse0 _ = p0 at R RC
  generalize parseC _ = pc at RC ⊢
  cases hpf : Lib.hasPrefix cite.data.toList bVol.data.toList
  · rw [hpf] at hcp
    have R0 : Hid (p0 = (numC bAt.data.toList cite.data.toList).bind fun p => (numC [] p.2).map fun q => (2, p.1, q.1, 0)) := Lib.hid (by rw [R.out, if_pos hpf])
    clear R hct htl
    have HS0 := Lib.hid (ps_made w cite cite hg)
    cases hk0 : numC bAt.data.toList cite.data.toList with
    | none =>
      have HK0 := Lib.hid hk0
      have e0 : numC bAt.data.toList cite.data.toList = none := hk0
      have HL := Lib.hid (show pc = none by simp only [RC.out, R0.out, e0, Option.bind_none])
      clear RC R0 e0 hk0
      go_enter Tryz.func61, Tryz.ntmps61
      go_wp2_with (first | (go_at_call 88; refine (hcp _).mono ?_; rintro e w' ⟨rfl, rfl⟩))
      refine ((HS0.out).num_none hgb hl bAt (HK0.out)).mono ?_
      rintro e w1 ⟨rfl, hbz⟩
      go_wp2_with (fail)
      exact ⟨rfl, hbz, by rw [HL.out]; rfl⟩
    | some p1 =>
      have HK0 := Lib.hid hk0
      have e0 : numC bAt.data.toList cite.data.toList = some p1 := hk0
      cases hk1 : numC (⟨#[]⟩ : ByteArray).data.toList (bytesOf p1.2).data.toList with
      | none =>
        have HK1 := Lib.hid hk1
        have e1 : numC [] p1.2 = none := hk1
        have HL := Lib.hid (show pc = none by simp only [RC.out, R0.out, e0, e1, Option.bind_none, Option.bind_some, Option.map_none])
        clear RC R0 e0 hk0 e1 hk1
        go_enter Tryz.func61, Tryz.ntmps61
        go_wp2_with (first | (go_at_call 88; refine (hcp _).mono ?_; rintro e w' ⟨rfl, rfl⟩))
        refine ((HS0.out).num_some hgb hl bAt _ (HK0.out)).mono ?_
        rintro e w1 ⟨rfl, hs1, hl1⟩
        have HS1 := Lib.hid hs1
        clear hs1
        go_wp2_with (fail)
        refine ((HS1.out).num_none hgb hl1 (⟨#[]⟩ : ByteArray) (HK1.out)).mono ?_
        rintro e w2 ⟨rfl, hbz⟩
        go_wp2_with (fail)
        exact ⟨rfl, hbz, by rw [HL.out]; rfl⟩
      | some p2 =>
        have HK1 := Lib.hid hk1
        have e1 : numC [] p1.2 = some p2 := hk1
        have R1 : Hid (pc = if (2 : Int) ≠ 0 ∧ dayB p2.1 = false then none else some (2, p1.1, p2.1, 0)) := Lib.hid (by simp only [RC.out, R0.out, e0, e1, Option.bind_some, Option.map_some])
        clear RC R0 e0 hk0 e1 hk1
        cases hd : dayB p2.1
        · have HL := Lib.hid (show pc = none by rw [R1.out, if_pos ⟨by decide, hd⟩])
          clear R1
          go_enter Tryz.func61, Tryz.ntmps61
          go_wp2_with (first | (go_at_call 88; refine (hcp _).mono ?_; rintro e w' ⟨rfl, rfl⟩))
          refine ((HS0.out).num_some hgb hl bAt _ (HK0.out)).mono ?_
          rintro e w1 ⟨rfl, hs1, hl1⟩
          have HS1 := Lib.hid hs1
          clear hs1
          go_wp2_with (fail)
          refine ((HS1.out).num_some hgb hl1 (⟨#[]⟩ : ByteArray) _ (HK1.out)).mono ?_
          rintro e w2 ⟨rfl, hs2, hl2⟩
          have HS2 := Lib.hid hs2
          clear hs2
          obtain ⟨c0, c1, c2, c3, c4, c5, c6⟩ := (HS2.out).cells
          have f0 := c5 0; have f1 := c5 1; have f2 := c5 2; have f3 := c5 3
          have HB := Lib.hid (HS2.out).below
          have HB4 := Lib.hid (set4_below (c := w.heap.size + 1) (.int .u8 2) (.int .i64 p1.1) (.int .i64 p2.1) (.int .i64 0) HB.out (Nat.le_succ _))
          have HH4 := Lib.hid (set4_heap (c := w.heap.size + 1) (.int .u8 2) (.int .i64 p1.1) (.int .i64 p2.1) (.int .i64 0) (HS2.out).res)
          go_wp2_with (first | (go_at_call 34; refine (dayB_any _ _ hd _).mono ?_; rintro e w' ⟨rfl, rfl⟩))
          exact ⟨rfl, HB4.out, by rw [HL.out]; rfl⟩
        · have HL := Lib.hid (show pc = some (2, p1.1, p2.1, 0) by rw [R1.out, if_neg (by simp [hd])])
          clear R1
          go_enter Tryz.func61, Tryz.ntmps61
          go_wp2_with (first | (go_at_call 88; refine (hcp _).mono ?_; rintro e w' ⟨rfl, rfl⟩))
          refine ((HS0.out).num_some hgb hl bAt _ (HK0.out)).mono ?_
          rintro e w1 ⟨rfl, hs1, hl1⟩
          have HS1 := Lib.hid hs1
          clear hs1
          go_wp2_with (fail)
          refine ((HS1.out).num_some hgb hl1 (⟨#[]⟩ : ByteArray) _ (HK1.out)).mono ?_
          rintro e w2 ⟨rfl, hs2, hl2⟩
          have HS2 := Lib.hid hs2
          clear hs2
          obtain ⟨c0, c1, c2, c3, c4, c5, c6⟩ := (HS2.out).cells
          have f0 := c5 0; have f1 := c5 1; have f2 := c5 2; have f3 := c5 3
          have HB := Lib.hid (HS2.out).below
          have HB4 := Lib.hid (set4_below (c := w.heap.size + 1) (.int .u8 2) (.int .i64 p1.1) (.int .i64 p2.1) (.int .i64 0) HB.out (Nat.le_succ _))
          have HH4 := Lib.hid (set4_heap (c := w.heap.size + 1) (.int .u8 2) (.int .i64 p1.1) (.int .i64 p2.1) (.int .i64 0) (HS2.out).res)
          go_wp2_with (first | (go_at_call 34; refine (dayB_any _ _ hd _).mono ?_; rintro e w' ⟨rfl, rfl⟩))
          refine bodyPost_ret (v := .agg #[.int .u8 2, .int .i64 p1.1, .int .i64 p2.1, .int .i64 0]) (ret_cited _ rfl (set4_heap _ _ _ _ HH4.out)) rfl ⟨set4_below _ _ _ _ HB4.out (Nat.le_succ _), by rw [HL.out]⟩
  · rw [hpf] at hcp
    have htl2 : (⟨(Lib.trimPrefix cite.data.toList bVol.data.toList).toArray⟩ : ByteArray).size ≤ 100000 := by show (Lib.trimPrefix _ _).toArray.size ≤ _; simpa using htl
    cases hcn : Lib.contains cite.data.toList [99, 111, 108, 46, 32]
    · rw [hcn] at hct
      have R0 : Hid (p0 = three 1 bSep.data.toList bPar.data.toList (Lib.trimPrefix cite.data.toList bVol.data.toList)) := Lib.hid (by rw [R.out, if_neg (by simp [hpf]), if_neg (by simp [hcn])])
      clear R htl
      have HS0 := Lib.hid (ps_made w cite (⟨(Lib.trimPrefix cite.data.toList bVol.data.toList).toArray⟩ : ByteArray) hg)
      cases hk0 : numC bSep.data.toList (⟨(Lib.trimPrefix cite.data.toList bVol.data.toList).toArray⟩ : ByteArray).data.toList with
      | none =>
        have HK0 := Lib.hid hk0
        have e0 : numC bSep.data.toList (Lib.trimPrefix cite.data.toList bVol.data.toList) = none := hk0
        have HL := Lib.hid (show pc = none by simp only [RC.out, R0.out, three, e0, Option.bind_none])
        clear RC R0 e0 hk0
        go_enter Tryz.func61, Tryz.ntmps61
        go_wp2_with (first | (go_at_call 88; refine (hcp _).mono ?_; rintro e w' ⟨rfl, rfl⟩) | (go_at_call 89; refine (hct _ (hg.below ((((Below.refl _ w).alloc (Nat.le_refl _) _).alloc (by simp) _).alloc (by simp; omega) _))).mono ?_; rintro e w' ⟨rfl, rfl⟩))
        refine ((HS0.out).num_none hgb htl2 bSep (HK0.out)).mono ?_
        rintro e w1 ⟨rfl, hbz⟩
        go_wp2_with (fail)
        exact ⟨rfl, hbz, by rw [HL.out]; rfl⟩
      | some p1 =>
        have HK0 := Lib.hid hk0
        have e0 : numC bSep.data.toList (Lib.trimPrefix cite.data.toList bVol.data.toList) = some p1 := hk0
        cases hk1 : numC bPar.data.toList (bytesOf p1.2).data.toList with
        | none =>
          have HK1 := Lib.hid hk1
          have e1 : numC bPar.data.toList p1.2 = none := hk1
          have HL := Lib.hid (show pc = none by simp only [RC.out, R0.out, three, e0, e1, Option.bind_none, Option.bind_some])
          clear RC R0 e0 hk0 e1 hk1
          go_enter Tryz.func61, Tryz.ntmps61
          go_wp2_with (first | (go_at_call 88; refine (hcp _).mono ?_; rintro e w' ⟨rfl, rfl⟩) | (go_at_call 89; refine (hct _ (hg.below ((((Below.refl _ w).alloc (Nat.le_refl _) _).alloc (by simp) _).alloc (by simp; omega) _))).mono ?_; rintro e w' ⟨rfl, rfl⟩))
          refine ((HS0.out).num_some hgb htl2 bSep _ (HK0.out)).mono ?_
          rintro e w1 ⟨rfl, hs1, hl1⟩
          have HS1 := Lib.hid hs1
          clear hs1
          go_wp2_with (fail)
          refine ((HS1.out).num_none hgb hl1 bPar (HK1.out)).mono ?_
          rintro e w2 ⟨rfl, hbz⟩
          go_wp2_with (fail)
          exact ⟨rfl, hbz, by rw [HL.out]; rfl⟩
        | some p2 =>
          have HK1 := Lib.hid hk1
          have e1 : numC bPar.data.toList p1.2 = some p2 := hk1
          cases hk2 : numC (⟨#[]⟩ : ByteArray).data.toList (bytesOf p2.2).data.toList with
          | none =>
            have HK2 := Lib.hid hk2
            have e2 : numC [] p2.2 = none := hk2
            have HL := Lib.hid (show pc = none by simp only [RC.out, R0.out, three, e0, e1, e2, Option.bind_none, Option.bind_some, Option.map_none])
            clear RC R0 e0 hk0 e1 hk1 e2 hk2
            go_enter Tryz.func61, Tryz.ntmps61
            go_wp2_with (first | (go_at_call 88; refine (hcp _).mono ?_; rintro e w' ⟨rfl, rfl⟩) | (go_at_call 89; refine (hct _ (hg.below ((((Below.refl _ w).alloc (Nat.le_refl _) _).alloc (by simp) _).alloc (by simp; omega) _))).mono ?_; rintro e w' ⟨rfl, rfl⟩))
            refine ((HS0.out).num_some hgb htl2 bSep _ (HK0.out)).mono ?_
            rintro e w1 ⟨rfl, hs1, hl1⟩
            have HS1 := Lib.hid hs1
            clear hs1
            go_wp2_with (fail)
            refine ((HS1.out).num_some hgb hl1 bPar _ (HK1.out)).mono ?_
            rintro e w2 ⟨rfl, hs2, hl2⟩
            have HS2 := Lib.hid hs2
            clear hs2
            go_wp2_with (fail)
            refine ((HS2.out).num_none hgb hl2 (⟨#[]⟩ : ByteArray) (HK2.out)).mono ?_
            rintro e w3 ⟨rfl, hbz⟩
            go_wp2_with (fail)
            exact ⟨rfl, hbz, by rw [HL.out]; rfl⟩
          | some p3 =>
            have HK2 := Lib.hid hk2
            have e2 : numC [] p2.2 = some p3 := hk2
            have R1 : Hid (pc = if (1 : Int) ≠ 0 ∧ dayB p2.1 = false then none else some (1, p1.1, p2.1, p3.1)) := Lib.hid (by simp only [RC.out, R0.out, three, e0, e1, e2, Option.bind_some, Option.map_some])
            clear RC R0 e0 hk0 e1 hk1 e2 hk2
            cases hd : dayB p2.1
            · have HL := Lib.hid (show pc = none by rw [R1.out, if_pos ⟨by decide, hd⟩])
              clear R1
              go_enter Tryz.func61, Tryz.ntmps61
              go_wp2_with (first | (go_at_call 88; refine (hcp _).mono ?_; rintro e w' ⟨rfl, rfl⟩) | (go_at_call 89; refine (hct _ (hg.below ((((Below.refl _ w).alloc (Nat.le_refl _) _).alloc (by simp) _).alloc (by simp; omega) _))).mono ?_; rintro e w' ⟨rfl, rfl⟩))
              refine ((HS0.out).num_some hgb htl2 bSep _ (HK0.out)).mono ?_
              rintro e w1 ⟨rfl, hs1, hl1⟩
              have HS1 := Lib.hid hs1
              clear hs1
              go_wp2_with (fail)
              refine ((HS1.out).num_some hgb hl1 bPar _ (HK1.out)).mono ?_
              rintro e w2 ⟨rfl, hs2, hl2⟩
              have HS2 := Lib.hid hs2
              clear hs2
              go_wp2_with (fail)
              refine ((HS2.out).num_some hgb hl2 (⟨#[]⟩ : ByteArray) _ (HK2.out)).mono ?_
              rintro e w3 ⟨rfl, hs3, hl3⟩
              have HS3 := Lib.hid hs3
              clear hs3
              obtain ⟨c0, c1, c2, c3, c4, c5, c6⟩ := (HS3.out).cells
              have f0 := c5 0; have f1 := c5 1; have f2 := c5 2; have f3 := c5 3
              have HB := Lib.hid (HS3.out).below
              have HB4 := Lib.hid (set4_below (c := w.heap.size + 1) (.int .u8 1) (.int .i64 p1.1) (.int .i64 p2.1) (.int .i64 p3.1) HB.out (Nat.le_succ _))
              have HH4 := Lib.hid (set4_heap (c := w.heap.size + 1) (.int .u8 1) (.int .i64 p1.1) (.int .i64 p2.1) (.int .i64 p3.1) (HS3.out).res)
              go_wp2_with (first | (go_at_call 34; refine (dayB_any _ _ hd _).mono ?_; rintro e w' ⟨rfl, rfl⟩))
              exact ⟨rfl, HB4.out, by rw [HL.out]; rfl⟩
            · have HL := Lib.hid (show pc = some (1, p1.1, p2.1, p3.1) by rw [R1.out, if_neg (by simp [hd])])
              clear R1
              go_enter Tryz.func61, Tryz.ntmps61
              go_wp2_with (first | (go_at_call 88; refine (hcp _).mono ?_; rintro e w' ⟨rfl, rfl⟩) | (go_at_call 89; refine (hct _ (hg.below ((((Below.refl _ w).alloc (Nat.le_refl _) _).alloc (by simp) _).alloc (by simp; omega) _))).mono ?_; rintro e w' ⟨rfl, rfl⟩))
              refine ((HS0.out).num_some hgb htl2 bSep _ (HK0.out)).mono ?_
              rintro e w1 ⟨rfl, hs1, hl1⟩
              have HS1 := Lib.hid hs1
              clear hs1
              go_wp2_with (fail)
              refine ((HS1.out).num_some hgb hl1 bPar _ (HK1.out)).mono ?_
              rintro e w2 ⟨rfl, hs2, hl2⟩
              have HS2 := Lib.hid hs2
              clear hs2
              go_wp2_with (fail)
              refine ((HS2.out).num_some hgb hl2 (⟨#[]⟩ : ByteArray) _ (HK2.out)).mono ?_
              rintro e w3 ⟨rfl, hs3, hl3⟩
              have HS3 := Lib.hid hs3
              clear hs3
              obtain ⟨c0, c1, c2, c3, c4, c5, c6⟩ := (HS3.out).cells
              have f0 := c5 0; have f1 := c5 1; have f2 := c5 2; have f3 := c5 3
              have HB := Lib.hid (HS3.out).below
              have HB4 := Lib.hid (set4_below (c := w.heap.size + 1) (.int .u8 1) (.int .i64 p1.1) (.int .i64 p2.1) (.int .i64 p3.1) HB.out (Nat.le_succ _))
              have HH4 := Lib.hid (set4_heap (c := w.heap.size + 1) (.int .u8 1) (.int .i64 p1.1) (.int .i64 p2.1) (.int .i64 p3.1) (HS3.out).res)
              go_wp2_with (first | (go_at_call 34; refine (dayB_any _ _ hd _).mono ?_; rintro e w' ⟨rfl, rfl⟩))
              refine bodyPost_ret (v := .agg #[.int .u8 1, .int .i64 p1.1, .int .i64 p2.1, .int .i64 p3.1]) (ret_cited _ rfl (set4_heap _ _ _ _ HH4.out)) rfl ⟨set4_below _ _ _ _ HB4.out (Nat.le_succ _), by rw [HL.out]⟩
    · rw [hcn] at hct
      have R0 : Hid (p0 = three 0 bCol.data.toList bL.data.toList (Lib.trimPrefix cite.data.toList bVol.data.toList)) := Lib.hid (by rw [R.out, if_neg (by simp [hpf]), if_pos hcn])
      clear R htl
      have HS0 := Lib.hid (ps_made w cite (⟨(Lib.trimPrefix cite.data.toList bVol.data.toList).toArray⟩ : ByteArray) hg)
      cases hk0 : numC bCol.data.toList (⟨(Lib.trimPrefix cite.data.toList bVol.data.toList).toArray⟩ : ByteArray).data.toList with
      | none =>
        have HK0 := Lib.hid hk0
        have e0 : numC bCol.data.toList (Lib.trimPrefix cite.data.toList bVol.data.toList) = none := hk0
        have HL := Lib.hid (show pc = none by simp only [RC.out, R0.out, three, e0, Option.bind_none])
        clear RC R0 e0 hk0
        go_enter Tryz.func61, Tryz.ntmps61
        go_wp2_with (first | (go_at_call 88; refine (hcp _).mono ?_; rintro e w' ⟨rfl, rfl⟩) | (go_at_call 89; refine (hct _ (hg.below ((((Below.refl _ w).alloc (Nat.le_refl _) _).alloc (by simp) _).alloc (by simp; omega) _))).mono ?_; rintro e w' ⟨rfl, rfl⟩))
        refine ((HS0.out).num_none hgb htl2 bCol (HK0.out)).mono ?_
        rintro e w1 ⟨rfl, hbz⟩
        go_wp2_with (fail)
        exact ⟨rfl, hbz, by rw [HL.out]; rfl⟩
      | some p1 =>
        have HK0 := Lib.hid hk0
        have e0 : numC bCol.data.toList (Lib.trimPrefix cite.data.toList bVol.data.toList) = some p1 := hk0
        cases hk1 : numC bL.data.toList (bytesOf p1.2).data.toList with
        | none =>
          have HK1 := Lib.hid hk1
          have e1 : numC bL.data.toList p1.2 = none := hk1
          have HL := Lib.hid (show pc = none by simp only [RC.out, R0.out, three, e0, e1, Option.bind_none, Option.bind_some])
          clear RC R0 e0 hk0 e1 hk1
          go_enter Tryz.func61, Tryz.ntmps61
          go_wp2_with (first | (go_at_call 88; refine (hcp _).mono ?_; rintro e w' ⟨rfl, rfl⟩) | (go_at_call 89; refine (hct _ (hg.below ((((Below.refl _ w).alloc (Nat.le_refl _) _).alloc (by simp) _).alloc (by simp; omega) _))).mono ?_; rintro e w' ⟨rfl, rfl⟩))
          refine ((HS0.out).num_some hgb htl2 bCol _ (HK0.out)).mono ?_
          rintro e w1 ⟨rfl, hs1, hl1⟩
          have HS1 := Lib.hid hs1
          clear hs1
          go_wp2_with (fail)
          refine ((HS1.out).num_none hgb hl1 bL (HK1.out)).mono ?_
          rintro e w2 ⟨rfl, hbz⟩
          go_wp2_with (fail)
          exact ⟨rfl, hbz, by rw [HL.out]; rfl⟩
        | some p2 =>
          have HK1 := Lib.hid hk1
          have e1 : numC bL.data.toList p1.2 = some p2 := hk1
          cases hk2 : numC (⟨#[]⟩ : ByteArray).data.toList (bytesOf p2.2).data.toList with
          | none =>
            have HK2 := Lib.hid hk2
            have e2 : numC [] p2.2 = none := hk2
            have HL := Lib.hid (show pc = none by simp only [RC.out, R0.out, three, e0, e1, e2, Option.bind_none, Option.bind_some, Option.map_none])
            clear RC R0 e0 hk0 e1 hk1 e2 hk2
            go_enter Tryz.func61, Tryz.ntmps61
            go_wp2_with (first | (go_at_call 88; refine (hcp _).mono ?_; rintro e w' ⟨rfl, rfl⟩) | (go_at_call 89; refine (hct _ (hg.below ((((Below.refl _ w).alloc (Nat.le_refl _) _).alloc (by simp) _).alloc (by simp; omega) _))).mono ?_; rintro e w' ⟨rfl, rfl⟩))
            refine ((HS0.out).num_some hgb htl2 bCol _ (HK0.out)).mono ?_
            rintro e w1 ⟨rfl, hs1, hl1⟩
            have HS1 := Lib.hid hs1
            clear hs1
            go_wp2_with (fail)
            refine ((HS1.out).num_some hgb hl1 bL _ (HK1.out)).mono ?_
            rintro e w2 ⟨rfl, hs2, hl2⟩
            have HS2 := Lib.hid hs2
            clear hs2
            go_wp2_with (fail)
            refine ((HS2.out).num_none hgb hl2 (⟨#[]⟩ : ByteArray) (HK2.out)).mono ?_
            rintro e w3 ⟨rfl, hbz⟩
            go_wp2_with (fail)
            exact ⟨rfl, hbz, by rw [HL.out]; rfl⟩
          | some p3 =>
            have HK2 := Lib.hid hk2
            have e2 : numC [] p2.2 = some p3 := hk2
            have R1 : Hid (pc = if (0 : Int) ≠ 0 ∧ dayB p2.1 = false then none else some (0, p1.1, p2.1, p3.1)) := Lib.hid (by simp only [RC.out, R0.out, three, e0, e1, e2, Option.bind_some, Option.map_some])
            clear RC R0 e0 hk0 e1 hk1 e2 hk2
            have HL := Lib.hid (show pc = some (0, p1.1, p2.1, p3.1) by rw [R1.out, if_neg (by simp)])
            clear R1
            go_enter Tryz.func61, Tryz.ntmps61
            go_wp2_with (first | (go_at_call 88; refine (hcp _).mono ?_; rintro e w' ⟨rfl, rfl⟩) | (go_at_call 89; refine (hct _ (hg.below ((((Below.refl _ w).alloc (Nat.le_refl _) _).alloc (by simp) _).alloc (by simp; omega) _))).mono ?_; rintro e w' ⟨rfl, rfl⟩))
            refine ((HS0.out).num_some hgb htl2 bCol _ (HK0.out)).mono ?_
            rintro e w1 ⟨rfl, hs1, hl1⟩
            have HS1 := Lib.hid hs1
            clear hs1
            go_wp2_with (fail)
            refine ((HS1.out).num_some hgb hl1 bL _ (HK1.out)).mono ?_
            rintro e w2 ⟨rfl, hs2, hl2⟩
            have HS2 := Lib.hid hs2
            clear hs2
            go_wp2_with (fail)
            refine ((HS2.out).num_some hgb hl2 (⟨#[]⟩ : ByteArray) _ (HK2.out)).mono ?_
            rintro e w3 ⟨rfl, hs3, hl3⟩
            have HS3 := Lib.hid hs3
            clear hs3
            obtain ⟨c0, c1, c2, c3, c4, c5, c6⟩ := (HS3.out).cells
            have f0 := c5 0; have f1 := c5 1; have f2 := c5 2; have f3 := c5 3
            have HB := Lib.hid (HS3.out).below
            have HB4 := Lib.hid (set4_below (c := w.heap.size + 1) (.int .u8 0) (.int .i64 p1.1) (.int .i64 p2.1) (.int .i64 p3.1) HB.out (Nat.le_succ _))
            have HH4 := Lib.hid (set4_heap (c := w.heap.size + 1) (.int .u8 0) (.int .i64 p1.1) (.int .i64 p2.1) (.int .i64 p3.1) (HS3.out).res)
            go_wp2_with (fail)
            refine bodyPost_ret (v := .agg #[.int .u8 0, .int .i64 p1.1, .int .i64 p2.1, .int .i64 p3.1]) (ret_cited _ rfl (set4_heap _ _ _ _ HH4.out)) rfl ⟨set4_below _ _ _ _ HB4.out (Nat.le_succ _), by rw [HL.out]⟩
end Go.Proofs.YtjkmdpejcgepkaaGreatDoor
