/- An edition: rows of entries, of the call's own. -/
import Derived.Test.YtjkmdpejcgepkaaGreatDoorCA
import Derived.WalkMore
namespace Go.Proofs.YtjkmdpejcgepkaaGreatDoor
open Go.RowKit
structure Entry where
  anchor : Int
  text : ByteArray
  gone : Bool
  deriving Inhabited
def EN : Enc Entry := ⟨fun x => [.int .i64 x.anchor, .string x.text, .bool x.gone], 3, fun _ => rfl, fun x u hu => by simp at hu; rcases hu with rfl | rfl | rfl <;> rfl, by decide⟩
/-- a slice's header -/
structure Sl where
  a : Option Addr
  n : Nat
  c : Nat
  deriving Inhabited
def Sl.val (s : Sl) : Value := .slice s.a s.n s.c
def ES : Enc Sl := ⟨fun s => [s.val], 1, fun _ => rfl, fun x u hu => by simp at hu; rcases hu with rfl; rfl, by decide⟩
def Rows (w : World) (base : Nat) (ss : List Sl) (rows : List (List Entry)) : Prop :=
  ss.length = rows.length ∧ (∀ (j : Nat) (s : Sl) (r : List Entry), ss[j]? = some s → rows[j]? = some r → Own EN 95 w base s.val r) ∧
  (∀ (i j : Nat) (s t : Sl) (b : Nat), i ≠ j → ss[i]? = some s → ss[j]? = some t → s.val.ownBlock = some b → t.val.ownBlock ≠ some b)
/-- an edition at a block -/
def IsEd (w : World) (base eb : Nat) (rows : List (List Entry)) : Prop :=
  ∃ (cs : Array Value) (ov : Value) (ss : List Sl), base ≤ eb ∧ w.heap[eb]? = some (.cells cs 90 (0, 0)) ∧ cs.size = 6 ∧ cs[5]? = some ov ∧ Own ES 93 w base ov ss ∧ Rows w base ss rows
theorem Rows.below {w w' : World} {base : Nat} {ss : List Sl} {rows : List (List Entry)} (h : Rows w base ss rows) (hb : Below w.heap.size w w') : Rows w' base ss rows :=
  ⟨h.1, fun j s r h1 h2 => (h.2.1 j s r h1 h2).below hb, h.2.2⟩
theorem Rows.alloc {w : World} {base : Nat} {ss : List Sl} {rows : List (List Entry)} (h : Rows w base ss rows) (o : Obj) : Rows (w.alloc o) base ss rows :=
  ⟨h.1, fun j s r h1 h2 => (h.2.1 j s r h1 h2).alloc o, h.2.2⟩
theorem IsEd.below {w w' : World} {base eb : Nat} {rows : List (List Entry)} (h : IsEd w base eb rows) (hb : Below w.heap.size w w') : IsEd w' base eb rows := by
  obtain ⟨cs, ov, ss, h0, h1, h2, h3, h4, h5⟩ := h
  exact ⟨cs, ov, ss, h0, by rw [hb.block eb (Array.getElem?_eq_some_iff.1 h1).1]; exact h1, h2, h3, h4.below hb, h5.below hb⟩
theorem IsEd.lt {w : World} {base eb : Nat} {rows : List (List Entry)} (h : IsEd w base eb rows) : base ≤ eb ∧ eb < w.heap.size := by
  obtain ⟨cs, ov, ss, h0, h1, _⟩ := h
  exact ⟨h0, (Array.getElem?_eq_some_iff.1 h1).1⟩
/-- where the entry with an anchor stands -/
def locate (a : Int) : List (List Entry) → Option (Nat × Nat)
  | [] => none
  | r :: rs => match r.findIdx? (fun e => e.anchor == a) with
    | some j => some (0, j)
    | none => (locate a rs).map fun p => (p.1 + 1, p.2)
theorem findIdx_none' {a : Int} {r : List Entry} (h : ∀ e ∈ r, e.anchor ≠ a) : r.findIdx? (fun e => e.anchor == a) = none := by
  rw [List.findIdx?_eq_none_iff]
  intro x hx
  simpa using h x hx
theorem locate_miss {a : Int} {rows : List (List Entry)} (h : ∀ r ∈ rows, ∀ e ∈ r, e.anchor ≠ a) : locate a rows = none := by
  induction rows with
  | nil => rfl
  | cons r rs ih =>
    rw [locate, findIdx_none' (h r (List.mem_cons_self ..)), ih fun r' hr' => h r' (List.mem_cons_of_mem _ hr')]
    rfl
theorem locate_hit {a : Int} {rows : List (List Entry)} {i j : Nat} (hi : i < rows.length) (hj : j < rows[i].length) (h0 : ∀ r ∈ rows.take i, ∀ e ∈ r, e.anchor ≠ a) (h1 : ∀ e ∈ rows[i].take j, e.anchor ≠ a) (h : rows[i][j].anchor = a) :
    locate a rows = some (i, j) := by
  induction rows generalizing i with
  | nil => simp at hi
  | cons r rs ih =>
    cases i with
    | zero =>
      simp only [List.getElem_cons_zero] at hj h1 h
      have : r.findIdx? (fun e => e.anchor == a) = some j := by
        rw [List.findIdx?_eq_some_iff_getElem]
        refine ⟨hj, by simpa using h, fun k hk => ?_⟩
        have := h1 (r[k]'(by omega)) (by rw [List.mem_take_iff_getElem]; exact ⟨k, by omega, rfl⟩)
        simpa using this
      rw [locate, this]
    | succ i =>
      rw [locate, findIdx_none' (h0 r (by simp))]
      simp only [List.getElem_cons_succ] at hj h1 h
      rw [ih (by simpa using hi) hj (fun r' hr' => h0 r' (by simp [hr'])) h1 h]
      rfl
def locV (o : Option (Nat × Nat)) : Value := match o with
  | some (i, j) => .tuple #[.int .i64 i, .int .i64 j, .bool true]
  | none => .tuple #[.int .i64 0, .int .i64 0, .bool false]
set_option maxHeartbeats 2000000 in
theorem edFind_any (w : World) (base eb : Nat) (rows : List (List Entry)) (a : Int) (h : IsEd w base eb rows) (hl : rows.length ≤ 1000) : Calls Tryz.prog 41 #[.pointer (some ⟨eb, 0, none⟩), .int .i64 a] w fun e w' =>
    e = .returned (locV (locate a rows)) ∧ Below w.heap.size w w' := by
  obtain ⟨cs, ov, ss, h0, h1, h2, h3, h4, h5⟩ := h
  have heb := (Array.getElem?_eq_some_iff.1 h1).1
  have c5 : w.cell? ⟨eb, 5, none⟩ = some ov := by simp [World.cell?, h1, h3]
  have hrl : Hid (∀ i (hi : i < rows.length) j (hj : j < rows[i].length), (∀ r ∈ rows.take i, ∀ e ∈ r, e.anchor ≠ a) → (∀ e ∈ rows[i].take j, e.anchor ≠ a) → rows[i][j].anchor = a → locV (locate a rows) = .tuple #[.int .i64 i, .int .i64 j, .bool true]) :=
    Lib.hid fun i hi j hj q0 q1 q2 => by rw [locate_hit hi hj q0 q1 q2]; rfl
  have hrn : Hid ((∀ r ∈ rows, ∀ e ∈ r, e.anchor ≠ a) → locV (locate a rows) = .tuple #[.int .i64 0, .int .i64 0, .bool false]) := Lib.hid fun q => by rw [locate_miss q]; rfl
  generalize locV (locate a rows) = R at hrl hrn ⊢
  have hrd := h4.rd
  obtain ⟨hlen, hown, -⟩ := h5
  obtain ⟨A, c, rfl, hc, -, hr⟩ := id hrd
  clear h4 h1 h3 hrd h0
  go_enter Tryz.func41, Tryz.ntmps41
  go_wp2
  go_step3
  go_wp2
  go_step3
  go_wp2
  go_loopg [4, 5, 6, 16] rows.length (fun gg s4 s5 s6 s16 wr => ∃ kk : Nat, kk ≤ rows.length ∧ rows.length - kk ≤ gg ∧ s16 = .int .i64 kk ∧ s4 = .int .i64 0 ∧ s5 = .int .i64 0 ∧ s6 = .bool false ∧ Aside (Below w.heap.size w wr ∧ ∀ r ∈ rows.take kk, ∀ e ∈ r, e.anchor ≠ a))
  case atStart => exact ⟨0, Nat.zero_le _, by omega, rfl, rfl, rfl, rfl, Below.refl _ _, by simp⟩
  case round =>
    obtain ⟨kk, hkk, hg, rfl, rfl, rfl, rfl, A1⟩ := hrel
    by_cases hlt : kk < rows.length
    · obtain ⟨b, off, rfl, hb, hr1⟩ := hr (by omega)
      clear hr
      have hb1 := A1.out.1
      have hs := hr1.below hb hb1 kk (by omega) 0 _ rfl
      simp only [show ES.k = 1 from rfl, Nat.mul_one, Nat.add_zero] at hs
      have hOr := (hown kk ss[kk] rows[kk] (List.getElem?_eq_getElem (by omega)) (List.getElem?_eq_getElem hlt)).below hb1
      generalize ss[kk]'(by omega) = sl at hs hOr
      obtain ⟨A2, n2, c2⟩ := sl
      obtain ⟨A3, c3, e3, -, hm3, hr3⟩ := hOr.rd
      dsimp only [Sl.val] at hs e3
      simp only [Value.slice.injEq] at e3
      obtain ⟨rfl, rfl, rfl⟩ := e3
      clear hOr
      have hbW : b < wr.heap.size := Nat.lt_of_lt_of_le hb hb1.size
      have hAA := Lib.hid A1.out
      have hrl' := Lib.hid (hrl.out kk hlt)
      have htk : Hid (rows.take (kk + 1) = rows.take kk ++ [rows[kk]]) := Lib.hid (List.take_succ_eq_append_getElem hlt)
      clear A1 hb1 hr1 hown hrl
      generalize rows[kk] = row at hs hr3 hm3 hrl' htk
      go_wp2
      go_loopg [4, 5, 6, 23] row.length (fun gg s4 s5 s6 s23 wq => ∃ jj : Nat, jj ≤ row.length ∧ row.length - jj ≤ gg ∧ s23 = .int .i64 jj ∧ s4 = .int .i64 0 ∧ s5 = .int .i64 0 ∧ s6 = .bool false ∧ Aside (Below wr.heap.size wr wq ∧ ∀ e ∈ row.take jj, e.anchor ≠ a))
      case atStart => exact ⟨0, Nat.zero_le _, by omega, rfl, rfl, rfl, rfl, Below.refl _ _, by simp⟩
      case round =>
        obtain ⟨jj, hjj, hg2, rfl, rfl, rfl, rfl, A2'⟩ := hrel
        have hb2 := A2'.out.1
        by_cases hlj : jj < row.length
        · obtain ⟨b3, off3, rfl, hb3, hra⟩ := hr3 (by omega)
          clear hr3
          have hc' := (hra.below hb3 hb2) jj hlj
          have hb3' : b3 < wr.heap.size := Nat.lt_of_lt_of_le hb3 hb2.size
          have hhit : Hid (row[jj].anchor = a → R = .tuple #[.int .i64 kk, .int .i64 jj, .bool true]) := Lib.hid fun q => hrl'.out jj hlj hAA.out.2 A2'.out.2 q
          have hgo : Hid (row[jj].anchor ≠ a → ∀ e ∈ row.take (jj + 1), e.anchor ≠ a) := Lib.hid fun q e he => by
            rw [List.take_succ_eq_append_getElem hlj, List.mem_append] at he
            rcases he with he | he
            · exact A2'.out.2 e he
            · simp only [List.mem_singleton] at he; rw [he]; exact q
          have hbw2 := Lib.hid hb2
          clear A2' hb2 hra
          generalize row[jj] = y at hc' hhit hgo
          obtain ⟨y0, y1, y2⟩ := y
          dsimp only at hhit hgo
          have d0 := hc' 0 _ rfl; have d1 := hc' 1 _ rfl; have d2 := hc' 2 _ rfl
          clear hc'
          have ek : EN.k = 3 := rfl
          simp only [Nat.add_zero, ek] at d0 d1 d2
          clear ek
          by_cases hya : y0 = a
          · have HN := Lib.hid (hhit.out hya)
            have hya' : (y0 == a) = true := by simpa using hya
            clear hhit hgo hrl'
            go_wp2
            rw [Exit.noGoto_ret]
            go_ret3
            exact ⟨by rw [HN.out]; rfl, (hAA.out.1.go hbw2.out).alloc (by have := hAA.out.1.size; have := hbw2.out.size; omega) _⟩
          · have HG := Lib.hid (hgo.out hya)
            have hya' : (y0 == a) = false := by simpa using hya
            clear hhit hgo hrl'
            go_wp2
            go_roundg (row.length - (jj + 1))
            case measure => omega
            case rel => exact ⟨jj + 1, by omega, by omega, by go_num, rfl, rfl, rfl, hbw2.out.alloc hbw2.out.size _, HG.out⟩
        · have : jj = row.length := by omega
          subst this
          have hAB := Lib.hid A2'.out
          clear A2'
          go_wp2
          go_roundg (rows.length - (kk + 1))
          case measure => omega
          case rel =>
            refine ⟨kk + 1, by omega, by omega, by go_num, rfl, rfl, rfl, hAA.out.1.go hAB.out.1, ?_⟩
            intro r hr e he
            rw [htk.out, List.mem_append] at hr
            rcases hr with hr | hr
            · exact hAA.out.2 r hr e he
            · simp only [List.mem_singleton] at hr; subst hr; exact hAB.out.2 e (by rw [List.take_length]; exact he)
    · have : kk = rows.length := by omega
      subst this
      have hAA := Lib.hid A1.out
      clear A1 hr hown
      have HN := Lib.hid (hrn.out (by have := hAA.out.2; rwa [List.take_length] at this))
      go_wp2
      rw [Exit.noGoto_ret]
      go_ret3
      exact ⟨by rw [HN.out]; rfl, hAA.out.1⟩
end Go.Proofs.YtjkmdpejcgepkaaGreatDoor
