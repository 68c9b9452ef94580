/-
  Contracts and lemmas towards the statement, of several parts; each part says ahead of it what it holds and under which conditions.
-/
import Derived.Test.YtkdimgghljklmaaMg4
import Derived.Maps.AppendAt
import Derived.Sort.OwnSortedInts
import Derived.Laws.AppendOwnNone
import Derived.Test.YtkdimgghljklmaaMg2
import Derived.OrdersIn
import Derived.TacticsIn
import Derived.OwnWalkIn
import Derived.RangeFuncBox
import Derived.RangeFuncLeaves
import Derived.Shelf.Abstract
import Derived.TacticsInMore
import Derived.LoopNIn
import Derived.LoopIn
/-
  Finals: a round that is played, the program's look: its pieces. Conditions: right seeds; games of those who are left; at most 1000 names.
-/
set_option linter.unusedVariables false
namespace Go.Bw
open Go.RowKit
/-- As app_law; it also tells where the new row lies. -/
theorem app_lawA {P : Program} {ops : Array Oper} {rest : List Oper} {o : Oper} {a : Act} {Q : Exit → Act → World → Prop} {W : World} (hgd : o.guard = none) (s x : Operand) (t : TypeId)
    (ho : o.op = .call { callee := .builtin .append, args := #[s, x], argTypes := #[t, t] })
    {e : TypeId} {z : Value} {size bytes : Nat} (E : Elem P t e z size bytes) {base : Nat} {v : Value} {n : Nat} {xs : List Value} (hown : W.ownsRow base e size v n xs) (hs : a.eval s = v)
    {g m c : Nat} (news : List Value) (hx : a.eval x = .slice (some ⟨g, 0, none⟩) m c) (hl : news.length = m * size) (hnews : ∀ j u, news[j]? = some u → W.cell? ⟨g, j, none⟩ = some u) (h1 : ∀ u ∈ news, u.oneCell' = true)
    (hlim : n + m ≤ 1099511627776) (hbase : base ≤ W.heap.size)
    (h : ∀ v' w', w'.ownsRow base e size v' (n + m) (xs ++ news) → W.grownBy w' v.ownBlock → (v'.ownBlock = v.ownBlock ∨ v'.ownBlock = some W.heap.size) → wpList P ops Q rest (a.put o.dst v') w') : wpList P ops Q (o :: rest) a W := by
  obtain ⟨i, hi, hz0, hz1, hz2⟩ := info_parts E.hi
  refine wpList_append_own_at W hgd s x t ho base e i z size bytes E.ht hi hz0 hz1 hz2 E.hz E.hs v n xs hs hown ⟨g, 0, none⟩ m c news hx hl (fun j u hj => ?_) h1 (by unfold maxLen; omega) ?_ hbase (fun v' w' h1 h2 _ h4 => h v' w' h1 h2 h4)
  · rw [Addr.add_lit]
    simpa using hnews j u hj
  · have := Nat.mul_le_mul hlim E.hb
    omega
/-- Two lists of numbers that a call has made, apart from each other. -/
structure Pr2 (w0 w : World) (e : TypeId) (vW vL : Value) (W L : List Int) : Prop where
  bel : Below w0.heap.size w0 w
  rw : w.ownsRow w0.heap.size e 1 vW W.length (W.map (.int .i64))
  rl : w.ownsRow w0.heap.size e 1 vL L.length (L.map (.int .i64))
  ne : ∀ k, vW.ownBlock = some k → vL.ownBlock ≠ some k
section
variable {w0 w w' : World} {e : TypeId} {vW vL v' : Value} {W L : List Int}
theorem Pr2.below (h : Pr2 w0 w e vW vL W L) (b : Below w.heap.size w w') : Pr2 w0 w' e vW vL W L :=
  ⟨h.bel.trans (b.mono h.bel.size), owns_below h.rw b (Nat.le_refl _), owns_below h.rl b (Nat.le_refl _), h.ne⟩
theorem Pr2.alloc (h : Pr2 w0 w e vW vL W L) (o : Obj) : Pr2 w0 (w.alloc o) e vW vL W L := h.below ((Below.refl _ _).alloc (Nat.le_refl _) o)
theorem Pr2.appW (h : Pr2 w0 w e vW vL W L) {x : Int} (ho : w'.ownsRow w0.heap.size e 1 v' (W.length + 1) (W.map (.int .i64) ++ [.int .i64 x])) (g : w.grownBy w' vW.ownBlock) (ha : v'.ownBlock = vW.ownBlock ∨ v'.ownBlock = some w.heap.size) : Pr2 w0 w' e v' vL (W ++ [x]) L := by
  refine ⟨h.bel.grown g h.bel.size (fun k hk => (h.rw.lt k hk).1), by rw [List.map_append, List.length_append]; exact ho, ?_, ?_⟩
  · by_cases hn : vL.ownBlock = none
    · exact h.rl.kept g (.inl hn)
    · refine h.rl.kept g (.inr fun he => ?_)
      cases hv : vW.ownBlock with
      | none => rw [hv] at he; exact hn he
      | some k => rw [hv] at he; exact h.ne k hv he
  · intro k hk hl
    rcases ha with ha | ha
    · exact h.ne k (by rw [← ha]; exact hk) hl
    · rw [hk] at ha
      have := (h.rl.lt k hl).2
      have := Option.some.inj ha
      omega
theorem Pr2.swap (h : Pr2 w0 w e vW vL W L) : Pr2 w0 w e vL vW L W := ⟨h.bel, h.rl, h.rw, fun k hk hl => h.ne k hl hk⟩
theorem Pr2.appL (h : Pr2 w0 w e vW vL W L) {x : Int} (ho : w'.ownsRow w0.heap.size e 1 v' (L.length + 1) (L.map (.int .i64) ++ [.int .i64 x])) (g : w.grownBy w' vL.ownBlock) (ha : v'.ownBlock = vL.ownBlock ∨ v'.ownBlock = some w.heap.size) : Pr2 w0 w' e vW v' W (L ++ [x]) :=
  (h.swap.appW ho g ha).swap
theorem Pr2.sort (h : Pr2 w0 w e vW vL W L) {L' : List Int} (ho : w'.ownsRow w0.heap.size e 1 vL L'.length (L'.map (.int .i64))) (g : w.grownBy w' vL.ownBlock) : Pr2 w0 w' e vW vL W L' := by
  refine ⟨h.bel.grown g h.bel.size (fun k hk => (h.rl.lt k hk).1), ?_, ho, h.ne⟩
  by_cases hn : vW.ownBlock = none
  · exact h.rw.kept g (.inl hn)
  · refine h.rw.kept g (.inr fun he => ?_)
    cases hv : vL.ownBlock with
    | none => rw [hv] at he; exact hn he
    | some k => rw [hv] at he; exact h.ne k he hv
end
end Go.Bw
namespace Go.Proofs.Ytkdimgghljklmaa
open Go.RowKit Go.Bw
theorem el_intP : Elem Try.prog 22 3 (.int .i64 0) 1 8 := ⟨by kernel_rfl, by kernel_rfl, by kernel_rfl, by decide, by decide⟩
def sortL (l : List Int) : List Int := l.mergeSort fun x y => decide (x ≤ y)
theorem sortL_length (l : List Int) : (sortL l).length = l.length := by simp [sortL]
open Go.Sort in
theorem sort_own (v : Value) (n base : Nat) (l : List Int) (w : World) (h : w.ownsRow base 3 1 v n (l.map (.int .i64))) (hn : n ≤ 1099511627776) :
    Calls Try.prog 65 #[v] w fun e w' => e = .returned (.tuple #[]) ∧ w'.ownsRow base 3 1 v n ((sortL l).map (.int .i64)) ∧ w.grownBy w' v.ownBlock := by
  have hl : l.length = n := by have := h.1; simpa using this
  rcases h.2 with ⟨rfl, h0⟩ | ⟨g, cap, cur, rfl, hbase, hb, h1, h2, h3, h4⟩
  · subst hl
    rw [h0]
    refine (Try.slices_Sort_int_none none 0 w).mono ?_
    rintro e w' ⟨rfl, rfl⟩
    have hl0 : l = [] := List.length_eq_zero_iff.1 h0
    subst hl0
    exact ⟨rfl, (by rw [show sortL [] = [] by simp [sortL]]; exact World.ownsRow_nil _ _ _ _), grown_refl _ _⟩
  · subst hl
    refine (Try.slices_Sort_int g 0 cap l w (holds_of_blockI hb (by simpa using h4)) (Array.getElem?_eq_some_iff.1 hb).1 (by omega)).mono ?_
    rintro e w' ⟨rfl, q, os, rfl⟩
    exact ⟨rfl, ownsRow_sortedI (by simp) hbase hb h1 h2 h3, grownBy_sortedI _⟩
theorem index_strP (v : Value) (n : Nat) (zs : List ByteArray) (x : ByteArray) (base : Nat) (w : World) (h : Row w base 1 v n (cellsOf encSt zs)) :
    Calls Try.prog 41 #[v, .string x] w fun e w' => e = .returned (.int .i64 (whoI zs x)) ∧ w = w' := by
  obtain ⟨hl, hc⟩ := h.els encSt_length (by decide)
  subst hl
  rcases hc with ⟨rfl, h0⟩ | ⟨b, off, cap, rfl, _, hbs, hnc, hcm, hcell⟩
  · refine (Try.slices_Index_string_empty none 0 x w).mono ?_
    rintro e w' ⟨rfl, rfl⟩
    have : zs = [] := List.length_eq_zero_iff.1 h0
    subst this
    exact ⟨rfl, rfl⟩
  · refine (Try.slices_Index_string b off zs.length cap zs x w (Nat.le_refl _) (by omega) (fun j hj => ?_)).mono ?_
    · have := hcell (j : Int) (by omega) (by omega) 0 _ rfl
      rw [geta_eq zs j (by omega) (by omega)] at this
      simpa [List.getD, hj] using this
    · rintro e w' ⟨rfl, rfl⟩
      rw [List.take_length]
      exact ⟨rfl, rfl⟩
/-- Two numbers in a block of games. -/
structure C2 (w : World) (g : Nat) (x y : Int) : Prop where
  c0 : w.cell? ⟨g, 0, none⟩ = some (.int .i64 x)
  c1 : w.cell? ⟨g, 1, none⟩ = some (.int .i64 y)
  tp : ∃ cur fr, w.heap[g]? = some (.cells cur 84 fr)
theorem C2.grow {w w' : World} {g : Nat} {x y : Int} {row : Option Nat} (h : C2 w g x y) (gr : w.grownBy w' row) (hne : row ≠ some g) : C2 w' g x y := by
  have hb := gr.block g (World.block_lt_of_cell? w _ h.c0) (fun e => hne e.symm)
  obtain ⟨cur, fr, ht⟩ := h.tp
  exact ⟨(World.cell?_of_block (a := ⟨g, 0, none⟩) hb).trans h.c0, (World.cell?_of_block (a := ⟨g, 1, none⟩) hb).trans h.c1, cur, fr, hb.trans ht⟩
theorem C2.below {w w' : World} {g : Nat} {x y : Int} (h : C2 w g x y) (b : Below w.heap.size w w') : C2 w' g x y := h.grow (row := none) (grown_of_below b) (by simp)
theorem C2.new (w : World) (x y : Int) : C2 (w.alloc (.cells #[.int .i64 x, .int .i64 y] 84)) w.heap.size x y := ⟨cells_new w _ _ 0 _ rfl, cells_new w _ _ 1 _ rfl, _, _, heap_alloc_new _ _⟩
theorem own_ne_c2 {w : World} {base n g : Nat} {v : Value} {xs : List Value} {x y : Int} (h : w.ownsRow base 3 1 v n xs) (c : C2 w g x y) : v.ownBlock ≠ some g := by
  intro e
  obtain ⟨cur', fr, ht⟩ := c.tp
  rcases h.2 with ⟨rfl, _⟩ | ⟨g', cap, cur, rfl, _, hb, _⟩
  · cases e
  · simp only [Value.ownBlock, Option.some.injEq] at e
    subst e
    rw [ht] at hb
    simp at hb
/-- The data of a call. -/
structure PyH (w0 : World) (vt vg vn : Value) (ts : List ByteArray) (left : List Int) (ws : List ByteArray) (N : Nat) : Prop where
  s : SdH w0 vt ts
  g : SGood ts
  l : LOk ts left N
  gr : Row w0 0 2 vg N (cells2 (gms ts.length (upL left) N))
  nr : Row w0 0 1 vn ws.length (cellsOf encSt ws)
  wn : ws.length ≤ 1000
/-- As many names as games. -/
structure PyN (ws : List ByteArray) (N : Nat) : Prop where
  lo : ws.length ≤ N
  hi : N ≤ ws.length
def pyW (ts : List ByteArray) (left : List Int) (ws : List ByteArray) : List Int := if rndE ts left ws = 0 then upL (winL ts left ws ws.length) else []
def pyL (ts : List ByteArray) (left : List Int) (ws : List ByteArray) : List Int := if rndE ts left ws = 0 then sortL (upL (realL ts.length (losL ts left ws ws.length))) else []
theorem rnd_form {ts : List ByteArray} {left : List Int} {ws : List ByteArray} {N : Nat} (l : LOk ts left N) (h : ws.length ≠ N) : rndE ts left ws = 3 := by
  have := l.len
  unfold rndE
  rw [if_pos]
  omega
theorem rnd_rest {ts : List ByteArray} {left : List Int} {ws : List ByteArray} {N : Nat} (l : LOk ts left N) (h : PyN ws N) : rndE ts left ws = firstErr (gErr ts left ws) ws.length := by
  have := l.len
  have := h.lo
  have := h.hi
  unfold rndE
  rw [if_neg]
  omega
theorem rnd_hit {ts : List ByteArray} {left : List Int} {ws : List ByteArray} {N : Nat} (l : LOk ts left N) (h : PyN ws N) {k : Int} (h0 : 0 ≤ k) (h1 : k < N) (hn : NoErr (gErr ts left ws) k) (hb : badG ts (gA left k) (gB left k) (geta ws k)) : rndE ts left ws = 8 := by
  have e : gErr ts left ws k = 8 := by unfold gErr; rw [if_pos hb]
  have := h.hi
  rw [rnd_rest l h, firstErr_hit hn h0 (by omega) (by rw [e]; decide), e]
theorem rnd_ok {ts : List ByteArray} {left : List Int} {ws : List ByteArray} {N : Nat} (l : LOk ts left N) (h : PyN ws N) (hn : NoErr (gErr ts left ws) N) : rndE ts left ws = 0 := by
  have e : N = ws.length := by have := h.lo; have := h.hi; omega
  rw [rnd_rest l h, ← e, firstErr_none hn]
noncomputable def pyP : Code := (Try.f59.body).getD .skip
set_option maxRecDepth 100000 in
theorem fr_pyP (f : Nat → Value) : frame 88 f = ⟨#[f 0, f 1, f 2, f 3, f 4, f 5, f 6, f 7, f 8, f 9, f 10, f 11, f 12, f 13, f 14, f 15, f 16, f 17, f 18, f 19, f 20, f 21, f 22, f 23, f 24, f 25, f 26, f 27, f 28, f 29, f 30, f 31, f 32, f 33, f 34, f 35, f 36, f 37, f 38, f 39, f 40, f 41, f 42, f 43, f 44, f 45, f 46, f 47, f 48, f 49, f 50, f 51, f 52, f 53, f 54, f 55, f 56, f 57, f 58, f 59, f 60, f 61, f 62, f 63, f 64, f 65, f 66, f 67, f 68, f 69, f 70, f 71, f 72, f 73, f 74, f 75, f 76, f 77, f 78, f 79, f 80, f 81, f 82, f 83, f 84, f 85, f 86, f 87], []⟩ := by rfl
set_option maxRecDepth 100000 in
set_option maxHeartbeats 1000000 in
theorem py0 (w0 : World) (vt vg vn : Value) (ts : List ByteArray) (left : List Int) (ws : List ByteArray) (N : Nat) (h : PyH w0 vt vg vn ts left ws N) : T3 Try.prog (fun a w => (IsW w0 w) ∧ Fr 88 [(0, vt), (1, vg), (2, vn)] a) (sel [0] pyP) (fun a w => (IsW w0 w) ∧ Fr 88 [(0, vt), (1, vg), (2, vn), (6, .slice none 0 0), (7, .slice none 0 0)] a) No 9 (fun a w => ∃ vW vL : Value, Fr 88 [(6, vW), (7, vL), (8, .int .i64 (rndE ts left ws))] a ∧ Pr2 w0 w 3 vW vL (pyW ts left ws) (pyL ts left ws)) := by
  refine T3.leaf ?_
  rintro Q JS JX JT K hS hK hX hE hT hR a w ⟨hW, ⟨fr, rfl, q0, q1, q2, _⟩⟩
  obtain ⟨p1, c1, hv1⟩ := h.s.t.shape
  subst hv1
  obtain ⟨p2, c2, hv2⟩ := h.gr.shape
  subst hv2
  obtain ⟨p3, c3, hv3⟩ := h.nr.shape
  subst hv3
  rw [fr_pyP, show fr 0 = _ from q0, show fr 1 = _ from q1, show fr 2 = _ from q2]
  clear q0 q1 q2
  conv => arg 2; whnf
  go_wp2_with fail
  refine Met.intro (hS _ _ ?_)
  exact ⟨hW, Fr.of _ rfl ⟨rfl, rfl, rfl, rfl, rfl, trivial⟩⟩

set_option maxRecDepth 100000 in
set_option maxHeartbeats 1000000 in
theorem py1 (w0 : World) (vt vg vn : Value) (ts : List ByteArray) (left : List Int) (ws : List ByteArray) (N : Nat) (h : PyH w0 vt vg vn ts left ws N) : T3 Try.prog (fun a w => (IsW w0 w) ∧ Fr 88 [(0, vt), (1, vg), (2, vn), (6, .slice none 0 0), (7, .slice none 0 0)] a) (sel [1, 0, 0] pyP) (fun a w => ∃ q, Fr 88 ((16, .bool q) :: [(0, vt), (1, vg), (2, vn), (6, .slice none 0 0), (7, .slice none 0 0)]) a ∧ ((q = ((ws.length : Int) != N)) ∧ IsW w0 w)) No 9 (fun a w => ∃ vW vL : Value, Fr 88 [(6, vW), (7, vL), (8, .int .i64 (rndE ts left ws))] a ∧ Pr2 w0 w 3 vW vL (pyW ts left ws) (pyL ts left ws)) := by
  refine T3.leaf ?_
  rintro Q JS JX JT K hS hK hX hE hT hR a w ⟨hW, ⟨fr, rfl, q0, q1, q2, q6, q7, _⟩⟩
  obtain ⟨p1, c1, hv1⟩ := h.s.t.shape
  subst hv1
  obtain ⟨p2, c2, hv2⟩ := h.gr.shape
  subst hv2
  obtain ⟨p3, c3, hv3⟩ := h.nr.shape
  subst hv3
  generalize hq : ((ws.length : Int) != N) = q at *
  rw [fr_pyP, show fr 0 = _ from q0, show fr 1 = _ from q1, show fr 2 = _ from q2, show fr 6 = _ from q6, show fr 7 = _ from q7]
  clear q0 q1 q2 q6 q7
  conv => arg 2; whnf
  go_wp2_with fail
  refine Met.intro (hS _ _ ?_)
  exact ⟨_, Fr.of _ rfl ⟨rfl, rfl, rfl, rfl, rfl, rfl, trivial⟩, rfl, hW⟩

set_option maxRecDepth 100000 in
set_option maxHeartbeats 1000000 in
theorem py2 (w0 : World) (vt vg vn : Value) (ts : List ByteArray) (left : List Int) (ws : List ByteArray) (N : Nat) (h : PyH w0 vt vg vn ts left ws N) : T3 Try.prog (fun a w => (IsW w0 w) ∧ Fr 88 [(0, vt), (1, vg), (2, vn), (6, .slice none 0 0), (7, .slice none 0 0)] a) (sel [1, 0, 1, 2, 0] pyP) (fun a w => (IsW w0 w) ∧ Fr 88 [(6, .slice none 0 0), (7, .slice none 0 0), (8, .int .i64 3)] a) No 9 (fun a w => ∃ vW vL : Value, Fr 88 [(6, vW), (7, vL), (8, .int .i64 (rndE ts left ws))] a ∧ Pr2 w0 w 3 vW vL (pyW ts left ws) (pyL ts left ws)) := by
  refine T3.leaf ?_
  rintro Q JS JX JT K hS hK hX hE hT hR a w ⟨hW, ⟨fr, rfl, q0, q1, q2, q6, q7, _⟩⟩
  obtain ⟨p1, c1, hv1⟩ := h.s.t.shape
  subst hv1
  obtain ⟨p2, c2, hv2⟩ := h.gr.shape
  subst hv2
  obtain ⟨p3, c3, hv3⟩ := h.nr.shape
  subst hv3
  rw [fr_pyP, show fr 0 = _ from q0, show fr 1 = _ from q1, show fr 2 = _ from q2, show fr 6 = _ from q6, show fr 7 = _ from q7]
  clear q0 q1 q2 q6 q7
  conv => arg 2; whnf
  go_wp2_with fail
  refine Met.intro (hS _ _ ?_)
  exact ⟨hW, Fr.of _ rfl ⟨rfl, rfl, rfl, trivial⟩⟩

set_option maxRecDepth 100000 in
set_option maxHeartbeats 1000000 in
theorem py3 (w0 : World) (vt vg vn : Value) (ts : List ByteArray) (left : List Int) (ws : List ByteArray) (N : Nat) (h : PyH w0 vt vg vn ts left ws N) : T3 Try.prog (fun a w => (IsW w0 w) ∧ Fr 88 [(0, vt), (1, vg), (2, vn), (6, .slice none 0 0), (7, .slice none 0 0)] a) (sel [1, 1, 0, 0] pyP) (fun a w => (0 ≤ (0 : Int) ∧ (0 : Int) ≤ N) ∧ ∃ (vW vL : Value), (NoErr (gErr ts left ws) 0) ∧ (Pr2 w0 w 3 vW vL (upL (winL ts left ws 0)) (upL (realL ts.length (losL ts left ws 0)))) ∧ Fr 88 [(0, vt), (2, vn), (6, vW), (7, vL), (17, vg), (18, .int .i64 N), (19, .int .i64 0)] a) No 9 (fun a w => ∃ vW vL : Value, Fr 88 [(6, vW), (7, vL), (8, .int .i64 (rndE ts left ws))] a ∧ Pr2 w0 w 3 vW vL (pyW ts left ws) (pyL ts left ws)) := by
  refine T3.leaf ?_
  rintro Q JS JX JT K hS hK hX hE hT hR a w ⟨hW, ⟨fr, rfl, q0, q1, q2, q6, q7, _⟩⟩
  obtain rfl : w = w0 := hW
  have h0 := Lib.hid (show Pr2 w w 3 (.slice none 0 0) (.slice none 0 0) (upL (winL ts left ws 0)) (upL (realL ts.length (losL ts left ws 0))) from ⟨Below.refl _ _, World.ownsRow_nil _ _ _ _, World.ownsRow_nil _ _ _ _, fun k hk => by cases hk⟩)
  obtain ⟨p1, c1, hv1⟩ := h.s.t.shape
  subst hv1
  obtain ⟨p2, c2, hv2⟩ := h.gr.shape
  subst hv2
  obtain ⟨p3, c3, hv3⟩ := h.nr.shape
  subst hv3
  rw [fr_pyP, show fr 0 = _ from q0, show fr 1 = _ from q1, show fr 2 = _ from q2, show fr 6 = _ from q6, show fr 7 = _ from q7]
  clear q0 q1 q2 q6 q7
  conv => arg 2; whnf
  go_wp2_with fail
  refine Met.intro (hS _ _ ?_)
  exact ⟨⟨by omega, by omega⟩, _, _, NoErr.zero _, h0.out, Fr.of _ rfl ⟨rfl, rfl, rfl, rfl, rfl, rfl, rfl, trivial⟩⟩

set_option maxRecDepth 100000 in
set_option maxHeartbeats 1000000 in
theorem py5 (w0 : World) (vt vg vn : Value) (ts : List ByteArray) (left : List Int) (ws : List ByteArray) (N : Nat) (h : PyH w0 vt vg vn ts left ws N) (pn : PyN ws N) (k : Int) : T3 Try.prog (fun a w => ∃ (vW vL : Value), ((0 ≤ k ∧ k < N) ∧ NoErr (gErr ts left ws) k) ∧ (Pr2 w0 w 3 vW vL (upL (winL ts left ws k)) (upL (realL ts.length (losL ts left ws k)))) ∧ Fr 88 [(0, vt), (2, vn), (6, vW), (7, vL), (17, vg), (18, .int .i64 N), (19, .int .i64 k)] a) (sel [1, 1, 0, 1, 4, 4, 1, 1, 0, 4, 0] pyP) (fun a w => ∃ (vW vL : Value) (g10 : Nat), ((0 ≤ k ∧ k < N) ∧ NoErr (gErr ts left ws) k) ∧ (Pr2 w0 w 3 vW vL (upL (winL ts left ws k)) (upL (realL ts.length (losL ts left ws k))) ∧ C2 w g10 (hiG (gA left k) (gB left k)) (loG ts.length (gA left k) (gB left k))) ∧ Fr 88 [(0, vt), (2, vn), (6, vW), (7, vL), (9, .int .i64 k), (10, .pointer (some ⟨g10, 0, none⟩)), (17, vg), (18, .int .i64 N), (19, .int .i64 k)] a) No 9 (fun a w => ∃ vW vL : Value, Fr 88 [(6, vW), (7, vL), (8, .int .i64 (rndE ts left ws))] a ∧ Pr2 w0 w 3 vW vL (pyW ts left ws) (pyL ts left ws)) := by
  refine T3.leaf ?_
  rintro Q JS JX JT K hS hK hX hE hT hR a w ⟨vW, vL, hpre, hW, ⟨fr, rfl, q0, q2, q6, q7, q17, q18, q19, _⟩⟩
  have hpp := Lib.hid hpre
  obtain ⟨⟨hk0, hk1⟩, _⟩ := hpre
  have n16 := h.l.n16
  obtain ⟨_, hcs⟩ := row_pairs (h.gr.below hW.bel)
  obtain ⟨p1, c1, hv1⟩ := h.s.t.shape
  subst hv1
  obtain ⟨p3, c3, hv3⟩ := h.nr.shape
  subst hv3
  rcases hcs with ⟨rfl, h0⟩ | ⟨bz, off, cap, rfl, _, hbz, hnc, hcm, hcell⟩
  · omega
  obtain ⟨t0, t1⟩ := hcell k hk0 (by omega)
  have hge : getp (gms ts.length (upL left) N) k = (hiG (gA left k) (gB left k), loG ts.length (gA left k) (gB left k)) := by
    rw [← game_at h.l ts.length k hk0 hk1]
    have hkk : k.toNat < N := by omega
    simp [getp, gms, hkk, Int.toNat_of_nonneg hk0]
  rw [hge] at t0 t1
  have HN := Lib.hid (fun w' : World => C2.new w' (hiG (gA left k) (gB left k)) (loG ts.length (gA left k) (gB left k)))
  have HW := Lib.hid hW
  clear hcell hge hW
  generalize hiG (gA left k) (gB left k) = hi at *
  generalize loG ts.length (gA left k) (gB left k) = lo at *
  rw [fr_pyP, show fr 0 = _ from q0, show fr 2 = _ from q2, show fr 6 = _ from q6, show fr 7 = _ from q7, show fr 17 = _ from q17, show fr 18 = _ from q18, show fr 19 = _ from q19]
  clear q0 q2 q6 q7 q17 q18 q19
  conv => arg 2; whnf
  go_wp2_with fail
  refine Met.intro (hS _ _ ?_)
  exact ⟨vW, vL, _, hpp.out, ⟨HW.out.alloc _, HN.out w⟩, Fr.of _ rfl ⟨rfl, rfl, rfl, rfl, rfl, rfl, rfl, rfl, rfl, trivial⟩⟩

set_option maxRecDepth 100000 in
set_option maxHeartbeats 1000000 in
theorem py6 (w0 : World) (vt vg vn : Value) (ts : List ByteArray) (left : List Int) (ws : List ByteArray) (N : Nat) (h : PyH w0 vt vg vn ts left ws N) (pn : PyN ws N) (k : Int) (vW vL : Value) (g10 : Nat) : T3 Try.prog (fun a w => ((0 ≤ k ∧ k < N) ∧ NoErr (gErr ts left ws) k) ∧ (Pr2 w0 w 3 vW vL (upL (winL ts left ws k)) (upL (realL ts.length (losL ts left ws k))) ∧ C2 w g10 (hiG (gA left k) (gB left k)) (loG ts.length (gA left k) (gB left k))) ∧ Fr 88 [(0, vt), (2, vn), (6, vW), (7, vL), (9, .int .i64 k), (10, .pointer (some ⟨g10, 0, none⟩)), (17, vg), (18, .int .i64 N), (19, .int .i64 k)] a) (sel [1, 1, 0, 1, 4, 4, 1, 1, 0, 4, 1, 0] pyP) (fun a w => ((0 ≤ k ∧ k < N) ∧ NoErr (gErr ts left ws) k) ∧ (Pr2 w0 w 3 vW vL (upL (winL ts left ws k)) (upL (realL ts.length (losL ts left ws k))) ∧ C2 w g10 (hiG (gA left k) (gB left k)) (loG ts.length (gA left k) (gB left k))) ∧ Fr 88 [(0, vt), (2, vn), (6, vW), (7, vL), (9, .int .i64 k), (10, .pointer (some ⟨g10, 0, none⟩)), (11, .int .i64 (whoI ts (geta ws k) + 1)), (17, vg), (18, .int .i64 N), (19, .int .i64 k)] a) No 9 (fun a w => ∃ vW vL : Value, Fr 88 [(6, vW), (7, vL), (8, .int .i64 (rndE ts left ws))] a ∧ Pr2 w0 w 3 vW vL (pyW ts left ws) (pyL ts left ws)) := by
  refine T3.leaf ?_
  rintro Q JS JX JT K hS hK hX hE hT hR a w ⟨hpre, hW, ⟨fr, rfl, q0, q2, q6, q7, q9, q10, q17, q18, q19, _⟩⟩
  have hpp := Lib.hid hpre
  obtain ⟨⟨hk0, hk1⟩, _⟩ := hpre
  have n16 := h.l.n16
  have n20 := h.g.n20
  have hlo := pn.hi
  have hws : k < ws.length := by omega
  obtain ⟨_, hcs⟩ := (h.nr.below hW.1.bel).els encSt_length (by decide)
  have HP := Lib.hid (fun x => index_strP vt ts.length ts x 0 w (h.s.t.below hW.1.bel))
  have hwb := whoI_cases ts (geta ws k)
  have hwb2 : -1 ≤ whoI ts (geta ws k) ∧ whoI ts (geta ws k) < 20 := by rcases hwb with ⟨e, _⟩ | ⟨e1, e2, _⟩ <;> omega
  obtain ⟨p2, c2, hv2⟩ := h.gr.shape
  subst hv2
  obtain ⟨p1, c1, hv1⟩ := h.s.t.shape
  subst hv1
  rcases hcs with ⟨rfl, h0⟩ | ⟨bz, off, cap, rfl, _, hbz, hnc, hcm, hcell⟩
  · omega
  have t0 := hcell k hk0 hws 0 _ rfl
  rw [Nat.mul_one, Nat.add_zero] at t0
  have HX := Lib.hid (HP.out (geta ws k))
  have HW := Lib.hid hW
  clear hcell hwb hW HP hlo
  generalize geta ws k = x at *
  generalize whoI ts x = wi at *
  rw [fr_pyP, show fr 0 = _ from q0, show fr 2 = _ from q2, show fr 6 = _ from q6, show fr 7 = _ from q7, show fr 9 = _ from q9, show fr 10 = _ from q10, show fr 17 = _ from q17, show fr 18 = _ from q18, show fr 19 = _ from q19]
  clear q0 q2 q6 q7 q9 q10 q17 q18 q19
  conv => arg 2; whnf
  go_wp2_with fail
  refine HX.out.mono ?_
  rintro e w1 ⟨rfl, rfl⟩
  go_wp2_with fail
  refine Met.intro (hS _ _ ?_)
  exact ⟨hpp.out, HW.out, Fr.of _ rfl ⟨rfl, rfl, rfl, rfl, rfl, rfl, rfl, rfl, rfl, rfl, trivial⟩⟩

set_option maxRecDepth 100000 in
set_option maxHeartbeats 1000000 in
theorem py8 (w0 : World) (vt vg vn : Value) (ts : List ByteArray) (left : List Int) (ws : List ByteArray) (N : Nat) (h : PyH w0 vt vg vn ts left ws N) (pn : PyN ws N) (k : Int) (vW vL : Value) (g10 : Nat) : T3 Try.prog (fun a w => ((0 ≤ k ∧ k < N) ∧ NoErr (gErr ts left ws) k) ∧ (Pr2 w0 w 3 vW vL (upL (winL ts left ws k)) (upL (realL ts.length (losL ts left ws k))) ∧ C2 w g10 (hiG (gA left k) (gB left k)) (loG ts.length (gA left k) (gB left k))) ∧ Fr 88 [(0, vt), (2, vn), (6, vW), (7, vL), (9, .int .i64 k), (10, .pointer (some ⟨g10, 0, none⟩)), (11, .int .i64 (whoI ts (geta ws k) + 1)), (17, vg), (18, .int .i64 N), (19, .int .i64 k)] a) (sel [1, 1, 0, 1, 4, 4, 1, 1, 0, 4, 1, 1, 4, 0] pyP) (fun a w => ∃ q, Fr 88 ((40, .bool q) :: [(0, vt), (2, vn), (6, vW), (7, vL), (9, .int .i64 k), (10, .pointer (some ⟨g10, 0, none⟩)), (11, .int .i64 (whoI ts (geta ws k) + 1)), (17, vg), (18, .int .i64 N), (19, .int .i64 k)]) a ∧ ((((0 ≤ k ∧ k < N) ∧ NoErr (gErr ts left ws) k) ∧ q = decide (badG ts (gA left k) (gB left k) (geta ws k))) ∧ Pr2 w0 w 3 vW vL (upL (winL ts left ws k)) (upL (realL ts.length (losL ts left ws k))) ∧ C2 w g10 (hiG (gA left k) (gB left k)) (loG ts.length (gA left k) (gB left k)))) No 9 (fun a w => ∃ vW vL : Value, Fr 88 [(6, vW), (7, vL), (8, .int .i64 (rndE ts left ws))] a ∧ Pr2 w0 w 3 vW vL (pyW ts left ws) (pyL ts left ws)) := by
  refine T3.leaf ?_
  rintro Q JS JX JT K hS hK hX hE hT hR a w ⟨hpre, hW, ⟨fr, rfl, q0, q2, q6, q7, q9, q10, q11, q17, q18, q19, _⟩⟩
  obtain ⟨⟨hk0, hk1⟩, _⟩ := hpre
  have hlen := h.l.len
  have hbe := bad_eq h.g (gA left k) (gB left k) (geta ws k) (h.l.a0 _ (by omega) (by omega)) (h.l.a0 _ (by omega) (by omega)) (h.l.one k hk0 hk1)
  have hpre : (0 ≤ k ∧ k < N) ∧ NoErr (gErr ts left ws) k := ⟨⟨hk0, hk1⟩, by assumption⟩
  have hpp := Lib.hid hpre
  have HW := Lib.hid hW
  have c0 := hW.2.c0
  have c1 := hW.2.c1
  obtain ⟨pw, cw, hvw⟩ := (Row.of_owns hW.1.rw).shape
  subst hvw
  obtain ⟨pl, cl, hvl⟩ := (Row.of_owns hW.1.rl).shape
  subst hvl
  obtain ⟨p1, c1, hv1⟩ := h.s.t.shape
  subst hv1
  obtain ⟨p2, c2, hv2⟩ := h.gr.shape
  subst hv2
  obtain ⟨p3, c3, hv3⟩ := h.nr.shape
  subst hv3
  clear hW
  clear hpre hlen
  have HB := Lib.hid hbe
  clear hbe
  generalize decide (badG ts (gA left k) (gB left k) (geta ws k)) = qb at *
  generalize whoI ts (geta ws k) + 1 = w1 at *
  generalize hiG (gA left k) (gB left k) = hi at *
  generalize loG ts.length (gA left k) (gB left k) = lo at *
  by_cases h1 : w1 = 0
  · have h1b : (w1 == 0) = true := by simp [h1]
    have hqb : qb = true := by rw [← HB.out, h1b]; rfl
    clear h1
    rw [fr_pyP, show fr 0 = _ from q0, show fr 2 = _ from q2, show fr 6 = _ from q6, show fr 7 = _ from q7, show fr 9 = _ from q9, show fr 10 = _ from q10, show fr 11 = _ from q11, show fr 17 = _ from q17, show fr 18 = _ from q18, show fr 19 = _ from q19]
    clear q0 q2 q6 q7 q9 q10 q11 q17 q18 q19
    conv => arg 2; whnf
    go_wp2_with fail
    refine Met.intro (hS _ _ ?_)
    exact ⟨_, Fr.of _ rfl ⟨rfl, rfl, rfl, rfl, rfl, rfl, rfl, rfl, rfl, rfl, rfl, trivial⟩, ⟨hpp.out, hqb.symm⟩, HW.out⟩
  · have h1b : (w1 == 0) = false := by simp [h1]
    clear h1
    by_cases h2 : w1 = hi
    · have h2b : (w1 != hi) = false := by simp [h2]
      have hqb : qb = false := by rw [← HB.out, h1b, h2b]; rfl
      clear h2
      rw [fr_pyP, show fr 0 = _ from q0, show fr 2 = _ from q2, show fr 6 = _ from q6, show fr 7 = _ from q7, show fr 9 = _ from q9, show fr 10 = _ from q10, show fr 11 = _ from q11, show fr 17 = _ from q17, show fr 18 = _ from q18, show fr 19 = _ from q19]
      clear q0 q2 q6 q7 q9 q10 q11 q17 q18 q19
      conv => arg 2; whnf
      go_wp2_with fail
      refine Met.intro (hS _ _ ?_)
      exact ⟨_, Fr.of _ rfl ⟨rfl, rfl, rfl, rfl, rfl, rfl, rfl, rfl, rfl, rfl, rfl, trivial⟩, ⟨hpp.out, hqb.symm⟩, HW.out⟩
    · have h2b : (w1 != hi) = true := by simp [h2]
      have hqb : qb = (w1 != lo) := by rw [← HB.out, h1b, h2b]; simp
      clear h2
      rw [fr_pyP, show fr 0 = _ from q0, show fr 2 = _ from q2, show fr 6 = _ from q6, show fr 7 = _ from q7, show fr 9 = _ from q9, show fr 10 = _ from q10, show fr 11 = _ from q11, show fr 17 = _ from q17, show fr 18 = _ from q18, show fr 19 = _ from q19]
      clear q0 q2 q6 q7 q9 q10 q11 q17 q18 q19
      conv => arg 2; whnf
      go_wp2_with fail
      refine Met.intro (hS _ _ ?_)
      exact ⟨_, Fr.of _ rfl ⟨rfl, rfl, rfl, rfl, rfl, rfl, rfl, rfl, rfl, rfl, rfl, trivial⟩, ⟨hpp.out, hqb.symm⟩, HW.out⟩

set_option maxRecDepth 100000 in
set_option maxHeartbeats 1000000 in
theorem py9 (w0 : World) (vt vg vn : Value) (ts : List ByteArray) (left : List Int) (ws : List ByteArray) (N : Nat) (h : PyH w0 vt vg vn ts left ws N) (pn : PyN ws N) (k : Int) (vW vL : Value) (g10 : Nat) : T3 Try.prog (fun a w => (Pr2 w0 w 3 vW vL (upL (winL ts left ws k)) (upL (realL ts.length (losL ts left ws k))) ∧ C2 w g10 (hiG (gA left k) (gB left k)) (loG ts.length (gA left k) (gB left k))) ∧ Fr 88 [(0, vt), (2, vn), (6, vW), (7, vL), (9, .int .i64 k), (10, .pointer (some ⟨g10, 0, none⟩)), (11, .int .i64 (whoI ts (geta ws k) + 1)), (17, vg), (18, .int .i64 N), (19, .int .i64 k)] a) (sel [1, 1, 0, 1, 4, 4, 1, 1, 0, 4, 1, 1, 4, 1, 2, 0] pyP) (fun a w => (Below w0.heap.size w0 w) ∧ Fr 88 [(6, .slice none 0 0), (7, .slice none 0 0), (8, .int .i64 8)] a) No 9 (fun a w => ∃ vW vL : Value, Fr 88 [(6, vW), (7, vL), (8, .int .i64 (rndE ts left ws))] a ∧ Pr2 w0 w 3 vW vL (pyW ts left ws) (pyL ts left ws)) := by
  refine T3.leaf ?_
  rintro Q JS JX JT K hS hK hX hE hT hR a w ⟨hW, ⟨fr, rfl, q0, q2, q6, q7, q9, q10, q11, q17, q18, q19, _⟩⟩
  have HW := Lib.hid hW
  have c0 := hW.2.c0
  have c1 := hW.2.c1
  obtain ⟨pw, cw, hvw⟩ := (Row.of_owns hW.1.rw).shape
  subst hvw
  obtain ⟨pl, cl, hvl⟩ := (Row.of_owns hW.1.rl).shape
  subst hvl
  obtain ⟨p1, c1, hv1⟩ := h.s.t.shape
  subst hv1
  obtain ⟨p2, c2, hv2⟩ := h.gr.shape
  subst hv2
  obtain ⟨p3, c3, hv3⟩ := h.nr.shape
  subst hv3
  clear hW
  rw [fr_pyP, show fr 0 = _ from q0, show fr 2 = _ from q2, show fr 6 = _ from q6, show fr 7 = _ from q7, show fr 9 = _ from q9, show fr 10 = _ from q10, show fr 11 = _ from q11, show fr 17 = _ from q17, show fr 18 = _ from q18, show fr 19 = _ from q19]
  clear q0 q2 q6 q7 q9 q10 q11 q17 q18 q19
  conv => arg 2; whnf
  go_wp2_with fail
  refine Met.intro (hS _ _ ?_)
  exact ⟨HW.out.1.bel, Fr.of _ rfl ⟨rfl, rfl, rfl, trivial⟩⟩

set_option maxRecDepth 100000 in
set_option maxHeartbeats 1000000 in
theorem py10 (w0 : World) (vt vg vn : Value) (ts : List ByteArray) (left : List Int) (ws : List ByteArray) (N : Nat) (h : PyH w0 vt vg vn ts left ws N) (pn : PyN ws N) (k : Int) (vW vL : Value) (g10 : Nat) : T3 Try.prog (fun a w => (Pr2 w0 w 3 vW vL (upL (winL ts left ws k)) (upL (realL ts.length (losL ts left ws k))) ∧ C2 w g10 (hiG (gA left k) (gB left k)) (loG ts.length (gA left k) (gB left k))) ∧ Fr 88 [(0, vt), (2, vn), (6, vW), (7, vL), (9, .int .i64 k), (10, .pointer (some ⟨g10, 0, none⟩)), (11, .int .i64 (whoI ts (geta ws k) + 1)), (17, vg), (18, .int .i64 N), (19, .int .i64 k)] a) (sel [1, 1, 0, 1, 4, 4, 1, 1, 0, 4, 1, 1, 4, 1, 3, 0] pyP) (fun a w => ∃ q, Fr 88 ((55, .bool q) :: [(0, vt), (2, vn), (6, vW), (7, vL), (9, .int .i64 k), (10, .pointer (some ⟨g10, 0, none⟩)), (11, .int .i64 (whoI ts (geta ws k) + 1)), (17, vg), (18, .int .i64 N), (19, .int .i64 k)]) a ∧ ((q = (((whoI ts (geta ws k) + 1) == hiG (gA left k) (gB left k)) && (loG ts.length (gA left k) (gB left k) != 0))) ∧ Pr2 w0 w 3 vW vL (upL (winL ts left ws k)) (upL (realL ts.length (losL ts left ws k))) ∧ C2 w g10 (hiG (gA left k) (gB left k)) (loG ts.length (gA left k) (gB left k)))) No 9 (fun a w => ∃ vW vL : Value, Fr 88 [(6, vW), (7, vL), (8, .int .i64 (rndE ts left ws))] a ∧ Pr2 w0 w 3 vW vL (pyW ts left ws) (pyL ts left ws)) := by
  refine T3.leaf ?_
  rintro Q JS JX JT K hS hK hX hE hT hR a w ⟨hW, ⟨fr, rfl, q0, q2, q6, q7, q9, q10, q11, q17, q18, q19, _⟩⟩
  have HW := Lib.hid hW
  have c0 := hW.2.c0
  have c1 := hW.2.c1
  obtain ⟨pw, cw, hvw⟩ := (Row.of_owns hW.1.rw).shape
  subst hvw
  obtain ⟨pl, cl, hvl⟩ := (Row.of_owns hW.1.rl).shape
  subst hvl
  obtain ⟨p1, c1, hv1⟩ := h.s.t.shape
  subst hv1
  obtain ⟨p2, c2, hv2⟩ := h.gr.shape
  subst hv2
  obtain ⟨p3, c3, hv3⟩ := h.nr.shape
  subst hv3
  clear hW
  generalize whoI ts (geta ws k) + 1 = w1 at *
  generalize hiG (gA left k) (gB left k) = hi at *
  generalize loG ts.length (gA left k) (gB left k) = lo at *
  by_cases h1 : w1 = hi
  · have h1b : (w1 == hi) = true := by simp [h1]
    clear h1
    rw [fr_pyP, show fr 0 = _ from q0, show fr 2 = _ from q2, show fr 6 = _ from q6, show fr 7 = _ from q7, show fr 9 = _ from q9, show fr 10 = _ from q10, show fr 11 = _ from q11, show fr 17 = _ from q17, show fr 18 = _ from q18, show fr 19 = _ from q19]
    clear q0 q2 q6 q7 q9 q10 q11 q17 q18 q19
    conv => arg 2; whnf
    go_wp2_with fail
    refine Met.intro (hS _ _ ?_)
    exact ⟨_, Fr.of _ rfl ⟨rfl, rfl, rfl, rfl, rfl, rfl, rfl, rfl, rfl, rfl, rfl, trivial⟩, by rw [h1b, Bool.true_and], HW.out⟩
  · have h1b : (w1 == hi) = false := by simp [h1]
    clear h1
    rw [fr_pyP, show fr 0 = _ from q0, show fr 2 = _ from q2, show fr 6 = _ from q6, show fr 7 = _ from q7, show fr 9 = _ from q9, show fr 10 = _ from q10, show fr 11 = _ from q11, show fr 17 = _ from q17, show fr 18 = _ from q18, show fr 19 = _ from q19]
    clear q0 q2 q6 q7 q9 q10 q11 q17 q18 q19
    conv => arg 2; whnf
    go_wp2_with fail
    refine Met.intro (hS _ _ ?_)
    exact ⟨_, Fr.of _ rfl ⟨rfl, rfl, rfl, rfl, rfl, rfl, rfl, rfl, rfl, rfl, rfl, trivial⟩, by rw [h1b, Bool.false_and], HW.out⟩

set_option maxRecDepth 100000 in
set_option maxHeartbeats 1000000 in
theorem py12 (w0 : World) (vt vg vn : Value) (ts : List ByteArray) (left : List Int) (ws : List ByteArray) (N : Nat) (h : PyH w0 vt vg vn ts left ws N) (pn : PyN ws N) (k : Int) (vW vL : Value) (g10 : Nat) : T3 Try.prog (fun a w => (Pr2 w0 w 3 vW vL (upL (winL ts left ws k)) (upL (realL ts.length (losL ts left ws k))) ∧ C2 w g10 (hiG (gA left k) (gB left k)) (loG ts.length (gA left k) (gB left k))) ∧ Fr 88 [(0, vt), (2, vn), (6, vW), (7, vL), (9, .int .i64 k), (10, .pointer (some ⟨g10, 0, none⟩)), (11, .int .i64 (whoI ts (geta ws k) + 1)), (17, vg), (18, .int .i64 N), (19, .int .i64 k)] a) (sel [1, 1, 0, 1, 4, 4, 1, 1, 0, 4, 1, 1, 4, 1, 3, 1, 3, 0] pyP) (fun a w => ∃ q, Fr 88 ((74, .bool q) :: [(0, vt), (2, vn), (6, vW), (7, vL), (9, .int .i64 k), (10, .pointer (some ⟨g10, 0, none⟩)), (11, .int .i64 (whoI ts (geta ws k) + 1)), (17, vg), (18, .int .i64 N), (19, .int .i64 k)]) a ∧ ((q = ((whoI ts (geta ws k) + 1) == hiG (gA left k) (gB left k))) ∧ Pr2 w0 w 3 vW vL (upL (winL ts left ws k)) (upL (realL ts.length (losL ts left ws k))) ∧ C2 w g10 (hiG (gA left k) (gB left k)) (loG ts.length (gA left k) (gB left k)))) No 9 (fun a w => ∃ vW vL : Value, Fr 88 [(6, vW), (7, vL), (8, .int .i64 (rndE ts left ws))] a ∧ Pr2 w0 w 3 vW vL (pyW ts left ws) (pyL ts left ws)) := by
  refine T3.leaf ?_
  rintro Q JS JX JT K hS hK hX hE hT hR a w ⟨hW, ⟨fr, rfl, q0, q2, q6, q7, q9, q10, q11, q17, q18, q19, _⟩⟩
  have HW := Lib.hid hW
  have c0 := hW.2.c0
  have c1 := hW.2.c1
  obtain ⟨pw, cw, hvw⟩ := (Row.of_owns hW.1.rw).shape
  subst hvw
  obtain ⟨pl, cl, hvl⟩ := (Row.of_owns hW.1.rl).shape
  subst hvl
  obtain ⟨p1, c1, hv1⟩ := h.s.t.shape
  subst hv1
  obtain ⟨p2, c2, hv2⟩ := h.gr.shape
  subst hv2
  obtain ⟨p3, c3, hv3⟩ := h.nr.shape
  subst hv3
  clear hW
  generalize whoI ts (geta ws k) + 1 = w1 at *
  generalize hiG (gA left k) (gB left k) = hi at *
  generalize loG ts.length (gA left k) (gB left k) = lo at *
  generalize hq : (w1 == hi) = q at *
  rw [fr_pyP, show fr 0 = _ from q0, show fr 2 = _ from q2, show fr 6 = _ from q6, show fr 7 = _ from q7, show fr 9 = _ from q9, show fr 10 = _ from q10, show fr 11 = _ from q11, show fr 17 = _ from q17, show fr 18 = _ from q18, show fr 19 = _ from q19]
  clear q0 q2 q6 q7 q9 q10 q11 q17 q18 q19
  conv => arg 2; whnf
  go_wp2_with fail
  refine Met.intro (hS _ _ ?_)
  exact ⟨_, Fr.of _ rfl ⟨rfl, rfl, rfl, rfl, rfl, rfl, rfl, rfl, rfl, rfl, rfl, trivial⟩, rfl, HW.out⟩

set_option maxRecDepth 100000 in
set_option maxHeartbeats 1000000 in
theorem py13 (w0 : World) (vt vg vn : Value) (ts : List ByteArray) (left : List Int) (ws : List ByteArray) (N : Nat) (h : PyH w0 vt vg vn ts left ws N) (pn : PyN ws N) (k : Int) (vW vL : Value) (g10 : Nat) (hk : 0 ≤ k ∧ k < N) (W1 : gWin ts left ws k + 1 = (whoI ts (geta ws k) + 1)) (L1 : ¬ gLos ts left ws k < ts.length) : T3 Try.prog (fun a w => (Pr2 w0 w 3 vW vL (upL (winL ts left ws k)) (upL (realL ts.length (losL ts left ws k))) ∧ C2 w g10 (hiG (gA left k) (gB left k)) (loG ts.length (gA left k) (gB left k))) ∧ Fr 88 [(0, vt), (2, vn), (6, vW), (7, vL), (9, .int .i64 k), (10, .pointer (some ⟨g10, 0, none⟩)), (11, .int .i64 (whoI ts (geta ws k) + 1)), (17, vg), (18, .int .i64 N), (19, .int .i64 k)] a) (sel [1, 1, 0, 1, 4, 4, 1, 1, 0, 4, 1, 1, 4, 1, 3, 1, 3, 1, 2] pyP) (fun a w => ∃ (vW vL : Value), (Pr2 w0 w 3 vW vL (upL (winL ts left ws (k + 1))) (upL (realL ts.length (losL ts left ws (k + 1))))) ∧ Fr 88 [(0, vt), (2, vn), (6, vW), (7, vL), (17, vg), (18, .int .i64 N), (19, .int .i64 k)] a) No 9 (fun a w => ∃ vW vL : Value, Fr 88 [(6, vW), (7, vL), (8, .int .i64 (rndE ts left ws))] a ∧ Pr2 w0 w 3 vW vL (pyW ts left ws) (pyL ts left ws)) := by
  refine T3.leaf ?_
  rintro Q JS JX JT K hS hK hX hE hT hR a w ⟨hW, ⟨fr, rfl, q0, q2, q6, q7, q9, q10, q11, q17, q18, q19, _⟩⟩
  have n16 := h.l.n16
  have hl1 : (upL (winL ts left ws k)).length ≤ 1000 := by rw [upL_length]; simp [winL]; omega
  have hl2 : (upL (realL ts.length (losL ts left ws k))).length ≤ 1000 := by rw [upL_length]; exact Nat.le_trans (List.length_filter_le _ _) (by simp [losL]; omega)
  have HWS := Lib.hid (show upL (winL ts left ws (k + 1)) = upL (winL ts left ws k) ++ [whoI ts (geta ws k) + 1] by rw [winL_succ _ _ _ _ hk.1, upL_snoc, W1])
  have HLS := Lib.hid (show upL (realL ts.length (losL ts left ws (k + 1))) = upL (realL ts.length (losL ts left ws k)) by rw [losL_succ _ _ _ _ hk.1, realL_no _ _ _ L1])
  have hEL := el_intP
  have hbs := hW.1.bel.size
  have hP := hW.1
  clear W1 L1
  generalize upL (winL ts left ws (k + 1)) = WW1 at *
  generalize upL (realL ts.length (losL ts left ws (k + 1))) = LL1 at *
  generalize upL (winL ts left ws k) = WW at *
  generalize upL (realL ts.length (losL ts left ws k)) = LL at *
  generalize whoI ts (geta ws k) + 1 = w1 at *
  generalize hiG (gA left k) (gB left k) = hi at *
  generalize loG ts.length (gA left k) (gB left k) = lo at *
  obtain ⟨pw, cw, hvw⟩ := (Row.of_owns hP.rw).shape
  subst hvw
  obtain ⟨pl, cl, hvl⟩ := (Row.of_owns hP.rl).shape
  subst hvl
  obtain ⟨p1, c1, hv1⟩ := h.s.t.shape
  subst hv1
  obtain ⟨p2, c2, hv2⟩ := h.gr.shape
  subst hv2
  obtain ⟨p3, c3, hv3⟩ := h.nr.shape
  subst hv3
  rw [fr_pyP, show fr 0 = _ from q0, show fr 2 = _ from q2, show fr 6 = _ from q6, show fr 7 = _ from q7, show fr 9 = _ from q9, show fr 10 = _ from q10, show fr 11 = _ from q11, show fr 17 = _ from q17, show fr 18 = _ from q18, show fr 19 = _ from q19]
  clear q0 q2 q6 q7 q9 q10 q11 q17 q18 q19
  conv => arg 2; whnf
  go_wp2_with (at_builtin; refine app_lawA rfl _ _ _ rfl hEL (hP.rw.alloc _) rfl [.int .i64 w1] rfl rfl (cells_new w #[_] _) (by simp [Value.oneCell']) (by omega) (by simp; omega) ?_; intro v' w3 hown3 hgr hat)
  refine Met.intro (hS _ _ ?_)
  refine ⟨_, _, ?_, Fr.of _ rfl ⟨rfl, rfl, rfl, rfl, rfl, rfl, rfl, trivial⟩⟩
  rw [HWS.out, HLS.out]
  exact (hP.alloc _).appW hown3 hgr hat

set_option maxRecDepth 100000 in
set_option maxHeartbeats 1000000 in
theorem py11 (w0 : World) (vt vg vn : Value) (ts : List ByteArray) (left : List Int) (ws : List ByteArray) (N : Nat) (h : PyH w0 vt vg vn ts left ws N) (pn : PyN ws N) (k : Int) (vW vL : Value) (g10 : Nat) (hk : 0 ≤ k ∧ k < N) (W1 : gWin ts left ws k + 1 = (whoI ts (geta ws k) + 1)) (L1 : gLos ts left ws k + 1 = loG ts.length (gA left k) (gB left k)) (L2 : gLos ts left ws k < ts.length) : T3 Try.prog (fun a w => (Pr2 w0 w 3 vW vL (upL (winL ts left ws k)) (upL (realL ts.length (losL ts left ws k))) ∧ C2 w g10 (hiG (gA left k) (gB left k)) (loG ts.length (gA left k) (gB left k))) ∧ Fr 88 [(0, vt), (2, vn), (6, vW), (7, vL), (9, .int .i64 k), (10, .pointer (some ⟨g10, 0, none⟩)), (11, .int .i64 (whoI ts (geta ws k) + 1)), (17, vg), (18, .int .i64 N), (19, .int .i64 k)] a) (sel [1, 1, 0, 1, 4, 4, 1, 1, 0, 4, 1, 1, 4, 1, 3, 1, 2] pyP) (fun a w => ∃ (vW vL : Value), (Pr2 w0 w 3 vW vL (upL (winL ts left ws (k + 1))) (upL (realL ts.length (losL ts left ws (k + 1))))) ∧ Fr 88 [(0, vt), (2, vn), (6, vW), (7, vL), (17, vg), (18, .int .i64 N), (19, .int .i64 k)] a) No 9 (fun a w => ∃ vW vL : Value, Fr 88 [(6, vW), (7, vL), (8, .int .i64 (rndE ts left ws))] a ∧ Pr2 w0 w 3 vW vL (pyW ts left ws) (pyL ts left ws)) := by
  refine T3.leafN ?_
  rintro JS hS a w ⟨hW, ⟨fr, rfl, q0, q2, q6, q7, q9, q10, q11, q17, q18, q19, _⟩⟩
  have n16 := h.l.n16
  have hl1 : (upL (winL ts left ws k)).length ≤ 1000 := by rw [upL_length]; simp [winL]; omega
  have hl2 : (upL (realL ts.length (losL ts left ws k))).length ≤ 1000 := by rw [upL_length]; exact Nat.le_trans (List.length_filter_le _ _) (by simp [losL]; omega)
  have HWS := Lib.hid (show upL (winL ts left ws (k + 1)) = upL (winL ts left ws k) ++ [whoI ts (geta ws k) + 1] by rw [winL_succ _ _ _ _ hk.1, upL_snoc, W1])
  have HLS := Lib.hid (show upL (realL ts.length (losL ts left ws (k + 1))) = upL (realL ts.length (losL ts left ws k)) ++ [loG ts.length (gA left k) (gB left k)] by rw [losL_succ _ _ _ _ hk.1, realL_yes _ _ _ L2, upL_snoc, L1])
  have hEL := el_intP
  have hbs := hW.1.bel.size
  have hP := hW.1
  have hM0 := hW.2.below (below_drewN (Below.refl w.heap.size w) 1)
  have hD := hP.below (below_drewN (Below.refl w.heap.size w) 1)
  have hgW := own_ne_c2 hP.rw hW.2
  have hgL := own_ne_c2 hP.rl hW.2
  have hz : ∀ o : Obj, (w.drew.alloc o).heap.size = w.drew.heap.size + 1 := fun o => by simp
  clear W1 L1 L2 hW
  generalize upL (winL ts left ws (k + 1)) = WW1 at *
  generalize upL (realL ts.length (losL ts left ws (k + 1))) = LL1 at *
  generalize upL (winL ts left ws k) = WW at *
  generalize upL (realL ts.length (losL ts left ws k)) = LL at *
  generalize whoI ts (geta ws k) + 1 = w1 at *
  generalize hiG (gA left k) (gB left k) = hi at *
  generalize loG ts.length (gA left k) (gB left k) = lo at *
  obtain ⟨pw, cw, hvw⟩ := (Row.of_owns hP.rw).shape
  subst hvw
  obtain ⟨pl, cl, hvl⟩ := (Row.of_owns hP.rl).shape
  subst hvl
  obtain ⟨p1, c1, hv1⟩ := h.s.t.shape
  subst hv1
  obtain ⟨p2, c2, hv2⟩ := h.gr.shape
  subst hv2
  obtain ⟨p3, c3, hv3⟩ := h.nr.shape
  subst hv3
  change C2 w.drew g10 hi lo at hM0
  change Pr2 w0 w.drew _ _ _ _ _ at hD
  rw [fr_pyP, show fr 0 = _ from q0, show fr 2 = _ from q2, show fr 6 = _ from q6, show fr 7 = _ from q7, show fr 9 = _ from q9, show fr 10 = _ from q10, show fr 11 = _ from q11, show fr 17 = _ from q17, show fr 18 = _ from q18, show fr 19 = _ from q19]
  clear q0 q2 q6 q7 q9 q10 q11 q17 q18 q19
  conv => arg 2; whnf
  refine wp_region_schS (fun w => C2 w g10 hi lo) (.calm 0 (.calm 1 (.calm 4 (.calm 5 (.calm 6 (.two 2 7 (.two 3 7 (.one 7 (.one 8 (.calm 9 (.calm 10 .done)))) (.one 3 (.one 8 (.calm 9 (.calm 10 .done))))) (.one 2 (.one 3 (.one 8 (.calm 9 (.calm 10 .done))))))))))) (by kernel_rfl) (by kernel_rfl) (by intro c a d v w h; cases d <;> exact h) ?_ ?_
  · exact hM0
  have A1 : ∀ i, (wofS w.drew (fun w => C2 w g10 hi lo) i).cell? ⟨g10, 1, none⟩ = some (.int .i64 lo) := fun i => (wofS_S (S := fun w => C2 w g10 hi lo) hM0 i).c1
  refine sch_hideS (w₁ := w.drew) (fun W hH hC hT_ hE => ?_)
  refine hH.out _ _ _ _ _ rfl (fun K hK => ?_); go_simp; refine hK _ ?_; clear hK K
  refine hH.out _ _ _ _ _ rfl (fun K hK => ?_); go_simp; refine hK _ ?_; clear hK K
  refine hH.out _ _ _ _ _ rfl (fun K hK => ?_); go_simp; refine hK _ ?_; clear hK K
  refine hH.out _ _ _ _ _ rfl (fun K hK => ?_); go_simp; refine hK _ ?_; clear hK K
  refine hH.out _ _ _ _ _ rfl (fun K hK => ?_); go_simp; refine hK _ ?_; clear hK K
  refine hT_.out _ _ _ _ _ _ ?_ ?_
  · refine hC.out _ _ _ _ _ rfl (by first | rfl | go_simp) (fun K hK => ?_)
    simp only [bare]
    go_wp2_with fail
    have hQ := hD.alloc (.cells #[.int .i64 w1] 3)
    have hM := hM0.below ((Below.refl _ _).alloc (Nat.le_refl _) (.cells #[.int .i64 w1] 3))
    have cA := cells_new w.drew #[.int .i64 w1] 3 0 _ rfl
    refine hK.out _ _ (hM) ?_
    clear hK K
    refine hT_.out _ _ _ _ _ _ ?_ ?_
    · refine hC.out _ _ _ _ _ rfl (by first | rfl | go_simp) (fun K hK => ?_)
      simp only [bare]
      go_wp2_with (at_builtin; refine app_lawA rfl _ _ _ rfl hEL (hQ.rw) rfl [.int .i64 w1] rfl rfl (news_one (by first | simp | simpa using cA)) (by simp [Value.oneCell']) (by omega) (hQ.bel.size) ?_; intro vW' w3 hown3 hgr3 hat3)
      have hQ3 := hQ.appW hown3 hgr3 hat3
      have hM3 := hM.grow hgr3 hgW
      obtain ⟨pw3, cw3, hvw3⟩ := (Row.of_owns hQ3.rw).shape
      subst hvw3
      refine hK.out _ _ (hM3) ?_
      clear hK K
      refine hC.out _ _ _ _ _ rfl (by first | rfl | go_simp) (fun K hK => ?_)
      simp only [bare]
      go_wp2_with fail
      have cB3 := cells_new w3 #[.int .i64 lo] 3 0 _ rfl
      have hM3 := hM3.below ((Below.refl _ _).alloc (Nat.le_refl _) (.cells #[.int .i64 lo] 3))
      have hQ3 := hQ3.alloc (.cells #[.int .i64 lo] 3)
      refine hK.out _ _ (hM3) ?_
      clear hK K
      refine hC.out _ _ _ _ _ rfl (by first | rfl | go_simp) (fun K hK => ?_)
      simp only [bare]
      have hs3 := hQ3.bel.size
      go_wp2_with (at_builtin; refine app_lawA rfl _ _ _ rfl hEL (hQ3.rl) rfl [.int .i64 lo] rfl rfl (news_one (by first | simp | simpa using cB3)) (by simp [Value.oneCell']) (by omega) (hQ3.bel.size) ?_; intro vL' w4 hown4 hgr4 hat4)
      have hQ4 := hQ3.appL hown4 hgr4 hat4
      have hM4 := hM3.grow hgr4 hgL
      refine hK.out _ _ (hM4) ?_
      clear hK K
      refine hH.out _ _ _ _ _ rfl (fun K hK => ?_); go_simp; refine hK _ ?_; clear hK K
      refine hH.out _ _ _ _ _ rfl (fun K hK => ?_); go_simp; refine hK _ ?_; clear hK K
      refine hE.out _ _ ?_
      clear hH hC hT_ hE W
      show JS _ _
      refine hS _ _ ?_
      refine ⟨_, _, ?_, Fr.of _ rfl ⟨rfl, rfl, rfl, rfl, rfl, rfl, rfl, trivial⟩⟩
      rw [HWS.out, HLS.out]
      rw [List.length_append, List.length_singleton] at hQ4
      exact hQ4
    · refine hC.out _ _ _ _ _ rfl (by first | rfl | go_simp) (fun K hK => ?_)
      simp only [bare]
      go_wp2_with fail
      have cB := cells_new (w.drew.alloc (.cells #[.int .i64 w1] 3)) #[.int .i64 lo] 3 0 _ rfl
      have cA := cell_pastM cA (.cells #[.int .i64 lo] 3)
      have hM := hM.below ((Below.refl _ _).alloc (Nat.le_refl _) (.cells #[.int .i64 lo] 3))
      have hQ := hQ.alloc (.cells #[.int .i64 lo] 3)
      refine hK.out _ _ (hM) ?_
      clear hK K
      refine hC.out _ _ _ _ _ rfl (by first | rfl | go_simp) (fun K hK => ?_)
      simp only [bare]
      go_wp2_with (at_builtin; refine app_lawA rfl _ _ _ rfl hEL (hQ.rw) rfl [.int .i64 w1] rfl rfl (news_one (by first | simp | simpa using cA)) (by simp [Value.oneCell']) (by omega) (hQ.bel.size) ?_; intro vW' w3 hown3 hgr3 hat3)
      have hQ3 := hQ.appW hown3 hgr3 hat3
      have hM3 := hM.grow hgr3 hgW
      have cB3 := tmp_kept cB hgr3 (fun e => by have := (hD.rw.lt _ e).2; (try simp only [hz] at this); omega)
      obtain ⟨pw3, cw3, hvw3⟩ := (Row.of_owns hQ3.rw).shape
      subst hvw3
      refine hK.out _ _ (hM3) ?_
      clear hK K
      refine hC.out _ _ _ _ _ rfl (by first | rfl | go_simp) (fun K hK => ?_)
      simp only [bare]
      have hs3 := hQ3.bel.size
      go_wp2_with (at_builtin; refine app_lawA rfl _ _ _ rfl hEL (hQ3.rl) rfl [.int .i64 lo] rfl rfl (news_one (by first | simp | simpa using cB3)) (by simp [Value.oneCell']) (by omega) (hQ3.bel.size) ?_; intro vL' w4 hown4 hgr4 hat4)
      have hQ4 := hQ3.appL hown4 hgr4 hat4
      have hM4 := hM3.grow hgr4 hgL
      refine hK.out _ _ (hM4) ?_
      clear hK K
      refine hH.out _ _ _ _ _ rfl (fun K hK => ?_); go_simp; refine hK _ ?_; clear hK K
      refine hH.out _ _ _ _ _ rfl (fun K hK => ?_); go_simp; refine hK _ ?_; clear hK K
      refine hE.out _ _ ?_
      clear hH hC hT_ hE W
      show JS _ _
      refine hS _ _ ?_
      refine ⟨_, _, ?_, Fr.of _ rfl ⟨rfl, rfl, rfl, rfl, rfl, rfl, rfl, trivial⟩⟩
      rw [HWS.out, HLS.out]
      rw [List.length_append, List.length_singleton] at hQ4
      exact hQ4
  · refine hC.out _ _ _ _ _ rfl (by first | rfl | go_simp) (fun K hK => ?_)
    simp only [bare]
    go_wp2_with fail
    have hQ := hD.alloc (.cells #[.int .i64 lo] 3)
    have hM := hM0.below ((Below.refl _ _).alloc (Nat.le_refl _) (.cells #[.int .i64 lo] 3))
    have cB := cells_new w.drew #[.int .i64 lo] 3 0 _ rfl
    refine hK.out _ _ (hM) ?_
    clear hK K
    refine hC.out _ _ _ _ _ rfl (by first | rfl | go_simp) (fun K hK => ?_)
    simp only [bare]
    go_wp2_with fail
    have cA := cells_new (w.drew.alloc (.cells #[.int .i64 lo] 3)) #[.int .i64 w1] 3 0 _ rfl
    have cB := cell_pastM cB (.cells #[.int .i64 w1] 3)
    have hM := hM.below ((Below.refl _ _).alloc (Nat.le_refl _) (.cells #[.int .i64 w1] 3))
    have hQ := hQ.alloc (.cells #[.int .i64 w1] 3)
    refine hK.out _ _ (hM) ?_
    clear hK K
    refine hC.out _ _ _ _ _ rfl (by first | rfl | go_simp) (fun K hK => ?_)
    simp only [bare]
    go_wp2_with (at_builtin; refine app_lawA rfl _ _ _ rfl hEL (hQ.rw) rfl [.int .i64 w1] rfl rfl (news_one (by first | simp | simpa using cA)) (by simp [Value.oneCell']) (by omega) (hQ.bel.size) ?_; intro vW' w3 hown3 hgr3 hat3)
    have hQ3 := hQ.appW hown3 hgr3 hat3
    have hM3 := hM.grow hgr3 hgW
    have cB3 := tmp_kept cB hgr3 (fun e => by have := (hD.rw.lt _ e).2; (try simp only [hz] at this); omega)
    obtain ⟨pw3, cw3, hvw3⟩ := (Row.of_owns hQ3.rw).shape
    subst hvw3
    refine hK.out _ _ (hM3) ?_
    clear hK K
    refine hC.out _ _ _ _ _ rfl (by first | rfl | go_simp) (fun K hK => ?_)
    simp only [bare]
    have hs3 := hQ3.bel.size
    go_wp2_with (at_builtin; refine app_lawA rfl _ _ _ rfl hEL (hQ3.rl) rfl [.int .i64 lo] rfl rfl (news_one (by first | simp | simpa using cB3)) (by simp [Value.oneCell']) (by omega) (hQ3.bel.size) ?_; intro vL' w4 hown4 hgr4 hat4)
    have hQ4 := hQ3.appL hown4 hgr4 hat4
    have hM4 := hM3.grow hgr4 hgL
    refine hK.out _ _ (hM4) ?_
    clear hK K
    refine hH.out _ _ _ _ _ rfl (fun K hK => ?_); go_simp; refine hK _ ?_; clear hK K
    refine hH.out _ _ _ _ _ rfl (fun K hK => ?_); go_simp; refine hK _ ?_; clear hK K
    refine hE.out _ _ ?_
    clear hH hC hT_ hE W
    show JS _ _
    refine hS _ _ ?_
    refine ⟨_, _, ?_, Fr.of _ rfl ⟨rfl, rfl, rfl, rfl, rfl, rfl, rfl, trivial⟩⟩
    rw [HWS.out, HLS.out]
    rw [List.length_append, List.length_singleton] at hQ4
    exact hQ4

set_option maxRecDepth 100000 in
set_option maxHeartbeats 1000000 in
theorem py7 (w0 : World) (vt vg vn : Value) (ts : List ByteArray) (left : List Int) (ws : List ByteArray) (N : Nat) (h : PyH w0 vt vg vn ts left ws N) (pn : PyN ws N) (k : Int) (vW vL : Value) (g10 : Nat) (hk : 0 ≤ k ∧ k < N) (W1 : gWin ts left ws k + 1 = (whoI ts (geta ws k) + 1)) (L1 : gLos ts left ws k + 1 = hiG (gA left k) (gB left k)) (L2 : gLos ts left ws k < ts.length) : T3 Try.prog (fun a w => (Pr2 w0 w 3 vW vL (upL (winL ts left ws k)) (upL (realL ts.length (losL ts left ws k))) ∧ C2 w g10 (hiG (gA left k) (gB left k)) (loG ts.length (gA left k) (gB left k))) ∧ Fr 88 [(0, vt), (2, vn), (6, vW), (7, vL), (9, .int .i64 k), (10, .pointer (some ⟨g10, 0, none⟩)), (11, .int .i64 (whoI ts (geta ws k) + 1)), (17, vg), (18, .int .i64 N), (19, .int .i64 k)] a) (sel [1, 1, 0, 1, 4, 4, 1, 1, 0, 4, 1, 1, 4, 1, 3, 1, 3, 1, 3] pyP) (fun a w => ∃ (vW vL : Value), (Pr2 w0 w 3 vW vL (upL (winL ts left ws (k + 1))) (upL (realL ts.length (losL ts left ws (k + 1))))) ∧ Fr 88 [(0, vt), (2, vn), (6, vW), (7, vL), (17, vg), (18, .int .i64 N), (19, .int .i64 k)] a) No 9 (fun a w => ∃ vW vL : Value, Fr 88 [(6, vW), (7, vL), (8, .int .i64 (rndE ts left ws))] a ∧ Pr2 w0 w 3 vW vL (pyW ts left ws) (pyL ts left ws)) := by
  refine T3.leafN ?_
  rintro JS hS a w ⟨hW, ⟨fr, rfl, q0, q2, q6, q7, q9, q10, q11, q17, q18, q19, _⟩⟩
  have n16 := h.l.n16
  have hl1 : (upL (winL ts left ws k)).length ≤ 1000 := by rw [upL_length]; simp [winL]; omega
  have hl2 : (upL (realL ts.length (losL ts left ws k))).length ≤ 1000 := by rw [upL_length]; exact Nat.le_trans (List.length_filter_le _ _) (by simp [losL]; omega)
  have HWS := Lib.hid (show upL (winL ts left ws (k + 1)) = upL (winL ts left ws k) ++ [whoI ts (geta ws k) + 1] by rw [winL_succ _ _ _ _ hk.1, upL_snoc, W1])
  have HLS := Lib.hid (show upL (realL ts.length (losL ts left ws (k + 1))) = upL (realL ts.length (losL ts left ws k)) ++ [hiG (gA left k) (gB left k)] by rw [losL_succ _ _ _ _ hk.1, realL_yes _ _ _ L2, upL_snoc, L1])
  have hEL := el_intP
  have hbs := hW.1.bel.size
  have hP := hW.1
  have hM0 := hW.2.below (below_drewN (Below.refl w.heap.size w) 1)
  have hD := hP.below (below_drewN (Below.refl w.heap.size w) 1)
  have hgW := own_ne_c2 hP.rw hW.2
  have hgL := own_ne_c2 hP.rl hW.2
  have hz : ∀ o : Obj, (w.drew.alloc o).heap.size = w.drew.heap.size + 1 := fun o => by simp
  clear W1 L1 L2 hW
  generalize upL (winL ts left ws (k + 1)) = WW1 at *
  generalize upL (realL ts.length (losL ts left ws (k + 1))) = LL1 at *
  generalize upL (winL ts left ws k) = WW at *
  generalize upL (realL ts.length (losL ts left ws k)) = LL at *
  generalize whoI ts (geta ws k) + 1 = w1 at *
  generalize hiG (gA left k) (gB left k) = hi at *
  generalize loG ts.length (gA left k) (gB left k) = lo at *
  obtain ⟨pw, cw, hvw⟩ := (Row.of_owns hP.rw).shape
  subst hvw
  obtain ⟨pl, cl, hvl⟩ := (Row.of_owns hP.rl).shape
  subst hvl
  obtain ⟨p1, c1, hv1⟩ := h.s.t.shape
  subst hv1
  obtain ⟨p2, c2, hv2⟩ := h.gr.shape
  subst hv2
  obtain ⟨p3, c3, hv3⟩ := h.nr.shape
  subst hv3
  change C2 w.drew g10 hi lo at hM0
  change Pr2 w0 w.drew _ _ _ _ _ at hD
  rw [fr_pyP, show fr 0 = _ from q0, show fr 2 = _ from q2, show fr 6 = _ from q6, show fr 7 = _ from q7, show fr 9 = _ from q9, show fr 10 = _ from q10, show fr 11 = _ from q11, show fr 17 = _ from q17, show fr 18 = _ from q18, show fr 19 = _ from q19]
  clear q0 q2 q6 q7 q9 q10 q11 q17 q18 q19
  conv => arg 2; whnf
  refine wp_region_schS (fun w => C2 w g10 hi lo) (.calm 0 (.calm 1 (.calm 4 (.calm 5 (.calm 6 (.two 2 7 (.two 3 7 (.one 7 (.one 8 (.calm 9 (.calm 10 .done)))) (.one 3 (.one 8 (.calm 9 (.calm 10 .done))))) (.one 2 (.one 3 (.one 8 (.calm 9 (.calm 10 .done))))))))))) (by kernel_rfl) (by kernel_rfl) (by intro c a d v w h; cases d <;> exact h) ?_ ?_
  · exact hM0
  have A0 : ∀ i, (wofS w.drew (fun w => C2 w g10 hi lo) i).cell? ⟨g10, 0, none⟩ = some (.int .i64 hi) := fun i => (wofS_S (S := fun w => C2 w g10 hi lo) hM0 i).c0
  refine sch_hideS (w₁ := w.drew) (fun W hH hC hT_ hE => ?_)
  refine hH.out _ _ _ _ _ rfl (fun K hK => ?_); go_simp; refine hK _ ?_; clear hK K
  refine hH.out _ _ _ _ _ rfl (fun K hK => ?_); go_simp; refine hK _ ?_; clear hK K
  refine hH.out _ _ _ _ _ rfl (fun K hK => ?_); go_simp; refine hK _ ?_; clear hK K
  refine hH.out _ _ _ _ _ rfl (fun K hK => ?_); go_simp; refine hK _ ?_; clear hK K
  refine hH.out _ _ _ _ _ rfl (fun K hK => ?_); go_simp; refine hK _ ?_; clear hK K
  refine hT_.out _ _ _ _ _ _ ?_ ?_
  · refine hC.out _ _ _ _ _ rfl (by first | rfl | go_simp) (fun K hK => ?_)
    simp only [bare]
    go_wp2_with fail
    have hQ := hD.alloc (.cells #[.int .i64 w1] 3)
    have hM := hM0.below ((Below.refl _ _).alloc (Nat.le_refl _) (.cells #[.int .i64 w1] 3))
    have cA := cells_new w.drew #[.int .i64 w1] 3 0 _ rfl
    refine hK.out _ _ (hM) ?_
    clear hK K
    refine hT_.out _ _ _ _ _ _ ?_ ?_
    · refine hC.out _ _ _ _ _ rfl (by first | rfl | go_simp) (fun K hK => ?_)
      simp only [bare]
      go_wp2_with (at_builtin; refine app_lawA rfl _ _ _ rfl hEL (hQ.rw) rfl [.int .i64 w1] rfl rfl (news_one (by first | simp | simpa using cA)) (by simp [Value.oneCell']) (by omega) (hQ.bel.size) ?_; intro vW' w3 hown3 hgr3 hat3)
      have hQ3 := hQ.appW hown3 hgr3 hat3
      have hM3 := hM.grow hgr3 hgW
      obtain ⟨pw3, cw3, hvw3⟩ := (Row.of_owns hQ3.rw).shape
      subst hvw3
      refine hK.out _ _ (hM3) ?_
      clear hK K
      refine hC.out _ _ _ _ _ rfl (by first | rfl | go_simp) (fun K hK => ?_)
      simp only [bare]
      go_wp2_with fail
      have cB3 := cells_new w3 #[.int .i64 hi] 3 0 _ rfl
      have hM3 := hM3.below ((Below.refl _ _).alloc (Nat.le_refl _) (.cells #[.int .i64 hi] 3))
      have hQ3 := hQ3.alloc (.cells #[.int .i64 hi] 3)
      refine hK.out _ _ (hM3) ?_
      clear hK K
      refine hC.out _ _ _ _ _ rfl (by first | rfl | go_simp) (fun K hK => ?_)
      simp only [bare]
      have hs3 := hQ3.bel.size
      go_wp2_with (at_builtin; refine app_lawA rfl _ _ _ rfl hEL (hQ3.rl) rfl [.int .i64 hi] rfl rfl (news_one (by first | simp | simpa using cB3)) (by simp [Value.oneCell']) (by omega) (hQ3.bel.size) ?_; intro vL' w4 hown4 hgr4 hat4)
      have hQ4 := hQ3.appL hown4 hgr4 hat4
      have hM4 := hM3.grow hgr4 hgL
      refine hK.out _ _ (hM4) ?_
      clear hK K
      refine hH.out _ _ _ _ _ rfl (fun K hK => ?_); go_simp; refine hK _ ?_; clear hK K
      refine hH.out _ _ _ _ _ rfl (fun K hK => ?_); go_simp; refine hK _ ?_; clear hK K
      refine hE.out _ _ ?_
      clear hH hC hT_ hE W
      show JS _ _
      refine hS _ _ ?_
      refine ⟨_, _, ?_, Fr.of _ rfl ⟨rfl, rfl, rfl, rfl, rfl, rfl, rfl, trivial⟩⟩
      rw [HWS.out, HLS.out]
      rw [List.length_append, List.length_singleton] at hQ4
      exact hQ4
    · refine hC.out _ _ _ _ _ rfl (by first | rfl | go_simp) (fun K hK => ?_)
      simp only [bare]
      go_wp2_with fail
      have cB := cells_new (w.drew.alloc (.cells #[.int .i64 w1] 3)) #[.int .i64 hi] 3 0 _ rfl
      have cA := cell_pastM cA (.cells #[.int .i64 hi] 3)
      have hM := hM.below ((Below.refl _ _).alloc (Nat.le_refl _) (.cells #[.int .i64 hi] 3))
      have hQ := hQ.alloc (.cells #[.int .i64 hi] 3)
      refine hK.out _ _ (hM) ?_
      clear hK K
      refine hC.out _ _ _ _ _ rfl (by first | rfl | go_simp) (fun K hK => ?_)
      simp only [bare]
      go_wp2_with (at_builtin; refine app_lawA rfl _ _ _ rfl hEL (hQ.rw) rfl [.int .i64 w1] rfl rfl (news_one (by first | simp | simpa using cA)) (by simp [Value.oneCell']) (by omega) (hQ.bel.size) ?_; intro vW' w3 hown3 hgr3 hat3)
      have hQ3 := hQ.appW hown3 hgr3 hat3
      have hM3 := hM.grow hgr3 hgW
      have cB3 := tmp_kept cB hgr3 (fun e => by have := (hD.rw.lt _ e).2; (try simp only [hz] at this); omega)
      obtain ⟨pw3, cw3, hvw3⟩ := (Row.of_owns hQ3.rw).shape
      subst hvw3
      refine hK.out _ _ (hM3) ?_
      clear hK K
      refine hC.out _ _ _ _ _ rfl (by first | rfl | go_simp) (fun K hK => ?_)
      simp only [bare]
      have hs3 := hQ3.bel.size
      go_wp2_with (at_builtin; refine app_lawA rfl _ _ _ rfl hEL (hQ3.rl) rfl [.int .i64 hi] rfl rfl (news_one (by first | simp | simpa using cB3)) (by simp [Value.oneCell']) (by omega) (hQ3.bel.size) ?_; intro vL' w4 hown4 hgr4 hat4)
      have hQ4 := hQ3.appL hown4 hgr4 hat4
      have hM4 := hM3.grow hgr4 hgL
      refine hK.out _ _ (hM4) ?_
      clear hK K
      refine hH.out _ _ _ _ _ rfl (fun K hK => ?_); go_simp; refine hK _ ?_; clear hK K
      refine hH.out _ _ _ _ _ rfl (fun K hK => ?_); go_simp; refine hK _ ?_; clear hK K
      refine hE.out _ _ ?_
      clear hH hC hT_ hE W
      show JS _ _
      refine hS _ _ ?_
      refine ⟨_, _, ?_, Fr.of _ rfl ⟨rfl, rfl, rfl, rfl, rfl, rfl, rfl, trivial⟩⟩
      rw [HWS.out, HLS.out]
      rw [List.length_append, List.length_singleton] at hQ4
      exact hQ4
  · refine hC.out _ _ _ _ _ rfl (by first | rfl | go_simp) (fun K hK => ?_)
    simp only [bare]
    go_wp2_with fail
    have hQ := hD.alloc (.cells #[.int .i64 hi] 3)
    have hM := hM0.below ((Below.refl _ _).alloc (Nat.le_refl _) (.cells #[.int .i64 hi] 3))
    have cB := cells_new w.drew #[.int .i64 hi] 3 0 _ rfl
    refine hK.out _ _ (hM) ?_
    clear hK K
    refine hC.out _ _ _ _ _ rfl (by first | rfl | go_simp) (fun K hK => ?_)
    simp only [bare]
    go_wp2_with fail
    have cA := cells_new (w.drew.alloc (.cells #[.int .i64 hi] 3)) #[.int .i64 w1] 3 0 _ rfl
    have cB := cell_pastM cB (.cells #[.int .i64 w1] 3)
    have hM := hM.below ((Below.refl _ _).alloc (Nat.le_refl _) (.cells #[.int .i64 w1] 3))
    have hQ := hQ.alloc (.cells #[.int .i64 w1] 3)
    refine hK.out _ _ (hM) ?_
    clear hK K
    refine hC.out _ _ _ _ _ rfl (by first | rfl | go_simp) (fun K hK => ?_)
    simp only [bare]
    go_wp2_with (at_builtin; refine app_lawA rfl _ _ _ rfl hEL (hQ.rw) rfl [.int .i64 w1] rfl rfl (news_one (by first | simp | simpa using cA)) (by simp [Value.oneCell']) (by omega) (hQ.bel.size) ?_; intro vW' w3 hown3 hgr3 hat3)
    have hQ3 := hQ.appW hown3 hgr3 hat3
    have hM3 := hM.grow hgr3 hgW
    have cB3 := tmp_kept cB hgr3 (fun e => by have := (hD.rw.lt _ e).2; (try simp only [hz] at this); omega)
    obtain ⟨pw3, cw3, hvw3⟩ := (Row.of_owns hQ3.rw).shape
    subst hvw3
    refine hK.out _ _ (hM3) ?_
    clear hK K
    refine hC.out _ _ _ _ _ rfl (by first | rfl | go_simp) (fun K hK => ?_)
    simp only [bare]
    have hs3 := hQ3.bel.size
    go_wp2_with (at_builtin; refine app_lawA rfl _ _ _ rfl hEL (hQ3.rl) rfl [.int .i64 hi] rfl rfl (news_one (by first | simp | simpa using cB3)) (by simp [Value.oneCell']) (by omega) (hQ3.bel.size) ?_; intro vL' w4 hown4 hgr4 hat4)
    have hQ4 := hQ3.appL hown4 hgr4 hat4
    have hM4 := hM3.grow hgr4 hgL
    refine hK.out _ _ (hM4) ?_
    clear hK K
    refine hH.out _ _ _ _ _ rfl (fun K hK => ?_); go_simp; refine hK _ ?_; clear hK K
    refine hH.out _ _ _ _ _ rfl (fun K hK => ?_); go_simp; refine hK _ ?_; clear hK K
    refine hE.out _ _ ?_
    clear hH hC hT_ hE W
    show JS _ _
    refine hS _ _ ?_
    refine ⟨_, _, ?_, Fr.of _ rfl ⟨rfl, rfl, rfl, rfl, rfl, rfl, rfl, trivial⟩⟩
    rw [HWS.out, HLS.out]
    rw [List.length_append, List.length_singleton] at hQ4
    exact hQ4

end Go.Proofs.Ytkdimgghljklmaa
/-
  Finals: a round that is played, the program's look, from end to end. Conditions: right seeds; games of those who are left; at most 1000 names.
-/
set_option linter.unusedVariables false
namespace Go.Proofs.Ytkdimgghljklmaa
open Go.RowKit Go.Bw
set_option maxRecDepth 100000 in
set_option maxHeartbeats 1000000 in
theorem pyb (w0 : World) (vt vg vn : Value) (ts : List ByteArray) (left : List Int) (ws : List ByteArray) (N : Nat) (h : PyH w0 vt vg vn ts left ws N) (pn : PyN ws N) (k : Int) : T3 Try.prog (fun a w => ∃ (vW vL : Value), ((0 ≤ k ∧ k < N) ∧ NoErr (gErr ts left ws) k) ∧ (Pr2 w0 w 3 vW vL (upL (winL ts left ws k)) (upL (realL ts.length (losL ts left ws k)))) ∧ Fr 88 [(0, vt), (2, vn), (6, vW), (7, vL), (17, vg), (18, .int .i64 N), (19, .int .i64 k)] a) (sel [1, 1, 0, 1, 4, 4, 1, 1, 0] pyP) (fun a w => ∃ (vW vL : Value), ((0 ≤ k ∧ k < N) ∧ NoErr (gErr ts left ws) (k + 1)) ∧ (Pr2 w0 w 3 vW vL (upL (winL ts left ws (k + 1))) (upL (realL ts.length (losL ts left ws (k + 1))))) ∧ Fr 88 [(0, vt), (2, vn), (6, vW), (7, vL), (17, vg), (18, .int .i64 N), (19, .int .i64 k)] a) No 9 (fun a w => ∃ vW vL : Value, Fr 88 [(6, vW), (7, vL), (8, .int .i64 (rndE ts left ws))] a ∧ Pr2 w0 w 3 vW vL (pyW ts left ws) (pyL ts left ws)) := by
  refine T3.block (id' := 1) (c := (sel [1, 1, 0, 1, 4, 4, 1, 1, 0, 4] pyP)) (by decide) ?_
  refine T3.seq (s := (sel [1, 1, 0, 1, 4, 4, 1, 1, 0, 4, 0] pyP)) (c := (sel [1, 1, 0, 1, 4, 4, 1, 1, 0, 4, 1] pyP)) (py5 w0 vt vg vn ts left ws N h pn k) (T3.ex fun vW => T3.ex fun vL => T3.ex fun g10 => ?_)
  refine T3.seq (s := (sel [1, 1, 0, 1, 4, 4, 1, 1, 0, 4, 1, 0] pyP)) (c := (sel [1, 1, 0, 1, 4, 4, 1, 1, 0, 4, 1, 1] pyP)) (py6 w0 vt vg vn ts left ws N h pn k vW vL g10) ?_
  refine T3.block (id' := 2) (c := (sel [1, 1, 0, 1, 4, 4, 1, 1, 0, 4, 1, 1, 4] pyP)) (by decide) ?_
  refine T3.seq (s := (sel [1, 1, 0, 1, 4, 4, 1, 1, 0, 4, 1, 1, 4, 0] pyP)) (c := .cond (.tmp 40) (sel [1, 1, 0, 1, 4, 4, 1, 1, 0, 4, 1, 1, 4, 1, 2] pyP) (sel [1, 1, 0, 1, 4, 4, 1, 1, 0, 4, 1, 1, 4, 1, 3] pyP)) (py8 w0 vt vg vn ts left ws N h pn k vW vL g10) ?_
  refine T3.iff (M := fun q w => (((0 ≤ k ∧ k < N) ∧ NoErr (gErr ts left ws) k) ∧ q = decide (badG ts (gA left k) (gB left k) (geta ws k))) ∧ Pr2 w0 w 3 vW vL (upL (winL ts left ws k)) (upL (realL ts.length (losL ts left ws k))) ∧ C2 w g10 (hiG (gA left k) (gB left k)) (loG ts.length (gA left k) (gB left k))) (by decide) ?_ ?_
  · refine T3.seq (s := (sel [1, 1, 0, 1, 4, 4, 1, 1, 0, 4, 1, 1, 4, 1, 2, 0] pyP)) (c := .ret) (t3_seqx (p := ((0 ≤ k ∧ k < N) ∧ NoErr (gErr ts left ws) k) ∧ badG ts (gA left k) (gB left k) (geta ws k)) (py9 w0 vt vg vn ts left ws N h pn k vW vL g10) ?_) (T3.ret ?_)
    · rintro a w ⟨hF, ⟨hp, hq⟩, hW⟩
      exact ⟨⟨hp, of_decide_eq_true hq.symm⟩, hW, hF.tail⟩
    · rintro a w ⟨⟨hp, hb⟩, hW, hF⟩
      have e := rnd_hit h.l pn hp.1.1 hp.1.2 hp.2 hb
      refine ⟨_, _, by rw [e]; exact hF, ?_⟩
      unfold pyW pyL
      rw [if_neg (by rw [e]; decide), if_neg (by rw [e]; decide)]
      exact ⟨hW, World.ownsRow_nil _ _ _ _, World.ownsRow_nil _ _ _ _, fun k hk => by cases hk⟩
  refine T3.pre (R := fun a w => (((0 ≤ k ∧ k < N) ∧ NoErr (gErr ts left ws) k) ∧ ¬ badG ts (gA left k) (gB left k) (geta ws k)) ∧ (Pr2 w0 w 3 vW vL (upL (winL ts left ws k)) (upL (realL ts.length (losL ts left ws k))) ∧ C2 w g10 (hiG (gA left k) (gB left k)) (loG ts.length (gA left k) (gB left k))) ∧ Fr 88 [(0, vt), (2, vn), (6, vW), (7, vL), (9, .int .i64 k), (10, .pointer (some ⟨g10, 0, none⟩)), (11, .int .i64 (whoI ts (geta ws k) + 1)), (17, vg), (18, .int .i64 N), (19, .int .i64 k)] a) (T3.pure fun hp => ?_) ?_
  · obtain ⟨⟨hk, hn⟩, hnb⟩ := hp
    have hlen := h.l.len
    have hgi := game_of h.g (gA left k) (gB left k) (geta ws k) (h.l.a0 _ (by omega) (by omega)) (h.l.a0 _ (by omega) (by omega)) (h.l.one k hk.1 hk.2) hnb
    have hn1 : NoErr (gErr ts left ws) (k + 1) := hn.step (by unfold gErr; rw [if_neg hnb])
    refine T3.post (S := (fun a w => ∃ (vW vL : Value), (Pr2 w0 w 3 vW vL (upL (winL ts left ws (k + 1))) (upL (realL ts.length (losL ts left ws (k + 1))))) ∧ Fr 88 [(0, vt), (2, vn), (6, vW), (7, vL), (17, vg), (18, .int .i64 N), (19, .int .i64 k)] a)) ?_ (fun a w ⟨vW, vL, hW, hF⟩ => ⟨vW, vL, ⟨hk, hn1⟩, hW, hF⟩)
    refine T3.seq (s := (sel [1, 1, 0, 1, 4, 4, 1, 1, 0, 4, 1, 1, 4, 1, 3, 0] pyP)) (c := .cond (.tmp 55) (sel [1, 1, 0, 1, 4, 4, 1, 1, 0, 4, 1, 1, 4, 1, 3, 1, 2] pyP) (sel [1, 1, 0, 1, 4, 4, 1, 1, 0, 4, 1, 1, 4, 1, 3, 1, 3] pyP)) (py10 w0 vt vg vn ts left ws N h pn k vW vL g10) ?_
    refine T3.iff (M := fun q w => (q = (((whoI ts (geta ws k) + 1) == hiG (gA left k) (gB left k)) && (loG ts.length (gA left k) (gB left k) != 0))) ∧ Pr2 w0 w 3 vW vL (upL (winL ts left ws k)) (upL (realL ts.length (losL ts left ws k))) ∧ C2 w g10 (hiG (gA left k) (gB left k)) (loG ts.length (gA left k) (gB left k))) (by decide) ?_ ?_
    · intro a w q
      have hq := q.2.1.symm
      simp only [Bool.and_eq_true, beq_iff_eq, bne_iff_ne, ne_eq] at hq
      cases hgi with
      | both h1 h2 h3 h4 h5 => exact py11 w0 vt vg vn ts left ws N h pn k vW vL g10 hk h3 h4 h5 a w ⟨q.2.2, q.1.tail⟩
      | alone h1 h2 h3 h5 => exact absurd h2 hq.2
      | low h1 h3 h4 h5 => exact absurd hq.1 h1
    refine T3.pre (R := fun a w => ((((whoI ts (geta ws k) + 1) == hiG (gA left k) (gB left k)) && (loG ts.length (gA left k) (gB left k) != 0)) = false) ∧ (Pr2 w0 w 3 vW vL (upL (winL ts left ws k)) (upL (realL ts.length (losL ts left ws k))) ∧ C2 w g10 (hiG (gA left k) (gB left k)) (loG ts.length (gA left k) (gB left k))) ∧ Fr 88 [(0, vt), (2, vn), (6, vW), (7, vL), (9, .int .i64 k), (10, .pointer (some ⟨g10, 0, none⟩)), (11, .int .i64 (whoI ts (geta ws k) + 1)), (17, vg), (18, .int .i64 N), (19, .int .i64 k)] a) (T3.pure fun hq => ?_) (fun a w q => ⟨q.2.1.symm, q.2.2, q.1.tail⟩)
    refine T3.seq (s := (sel [1, 1, 0, 1, 4, 4, 1, 1, 0, 4, 1, 1, 4, 1, 3, 1, 3, 0] pyP)) (c := .cond (.tmp 74) (sel [1, 1, 0, 1, 4, 4, 1, 1, 0, 4, 1, 1, 4, 1, 3, 1, 3, 1, 2] pyP) (sel [1, 1, 0, 1, 4, 4, 1, 1, 0, 4, 1, 1, 4, 1, 3, 1, 3, 1, 3] pyP)) (py12 w0 vt vg vn ts left ws N h pn k vW vL g10) ?_
    refine T3.iff (M := fun q w => (q = ((whoI ts (geta ws k) + 1) == hiG (gA left k) (gB left k))) ∧ Pr2 w0 w 3 vW vL (upL (winL ts left ws k)) (upL (realL ts.length (losL ts left ws k))) ∧ C2 w g10 (hiG (gA left k) (gB left k)) (loG ts.length (gA left k) (gB left k))) (by decide) ?_ ?_
    · intro a w q
      have hq2 := q.2.1.symm
      rw [hq2, Bool.true_and] at hq
      have hlo : loG ts.length (gA left k) (gB left k) = 0 := by simpa using hq
      rw [beq_iff_eq] at hq2
      cases hgi with
      | both h1 h2 h3 h4 h5 => exact absurd hlo h2
      | alone h1 h2 h3 h5 => exact py13 w0 vt vg vn ts left ws N h pn k vW vL g10 hk h3 h5 a w ⟨q.2.2, q.1.tail⟩
      | low h1 h3 h4 h5 => exact absurd hq2 h1
    · intro a w q
      have hq2 := q.2.1.symm
      rw [beq_eq_false_iff_ne] at hq2
      cases hgi with
      | both h1 h2 h3 h4 h5 => exact absurd h1 hq2
      | alone h1 h2 h3 h5 => exact absurd h1 hq2
      | low h1 h3 h4 h5 => exact py7 w0 vt vg vn ts left ws N h pn k vW vL g10 hk h3 h4 h5 a w ⟨q.2.2, q.1.tail⟩
  · rintro a w ⟨hF, ⟨hp, hq⟩, hW⟩
    exact ⟨⟨hp, of_decide_eq_false hq.symm⟩, hW, hF.tail⟩

def pylI (w0 : World) (vt vg vn : Value) (ts : List ByteArray) (left : List Int) (ws : List ByteArray) (N : Nat) (h : PyH w0 vt vg vn ts left ws N) (pn : PyN ws N) (k : Int) (a : Act) (w : World) : Prop := (0 ≤ k ∧ k ≤ N) ∧ ∃ (vW vL : Value), (NoErr (gErr ts left ws) k) ∧ (Pr2 w0 w 3 vW vL (upL (winL ts left ws k)) (upL (realL ts.length (losL ts left ws k)))) ∧ Fr 88 [(0, vt), (2, vn), (6, vW), (7, vL), (17, vg), (18, .int .i64 N), (19, .int .i64 k)] a
set_option maxRecDepth 100000 in
set_option maxHeartbeats 1000000 in
theorem pylt (w0 : World) (vt vg vn : Value) (ts : List ByteArray) (left : List Int) (ws : List ByteArray) (N : Nat) (h : PyH w0 vt vg vn ts left ws N) (pn : PyN ws N) (k : Int) : T3 Try.prog (fun a w => pylI w0 vt vg vn ts left ws N h pn k a w) (sel [1, 1, 0, 1, 4, 4, 0] pyP) (fun a w => ∃ q, Fr 88 ((20, .bool q) :: [(19, .int .i64 k)]) a ∧ ((q = true ↔ k < N) ∧ pylI w0 vt vg vn ts left ws N h pn k a w)) No 9 (fun a w => ∃ vW vL : Value, Fr 88 [(6, vW), (7, vL), (8, .int .i64 (rndE ts left ws))] a ∧ Pr2 w0 w 3 vW vL (pyW ts left ws) (pyL ts left ws)) := by
  refine T3.leaf ?_
  rintro Q JS JX JT K hS hK hX hE hT hR a w ⟨hk, vW, vL, hpre, hW, ⟨fr, rfl, q0, q2, q6, q7, q17, q18, q19, _⟩⟩
  have n16 := h.l.n16
  rw [fr_pyP, show fr 0 = _ from q0, show fr 2 = _ from q2, show fr 6 = _ from q6, show fr 7 = _ from q7, show fr 17 = _ from q17, show fr 18 = _ from q18, show fr 19 = _ from q19]
  clear q0 q2 q6 q7 q17 q18 q19
  conv => arg 2; whnf
  by_cases hlt : k < N
  · go_wp2_with fail
    refine Met.intro (hS _ _ ?_)
    exact ⟨true, Fr.of _ rfl ⟨rfl, rfl, trivial⟩, ⟨fun _ => hlt, fun _ => rfl⟩, hk, vW, vL, hpre, hW, Fr.of _ rfl ⟨rfl, rfl, rfl, rfl, rfl, rfl, rfl, trivial⟩⟩
  · have hpb : decide (k < (N)) = false := by simp; omega
    go_wp2_with fail
    refine Met.intro (hS _ _ ?_)
    exact ⟨false, Fr.of _ rfl ⟨rfl, rfl, trivial⟩, ⟨(fun h => by cases h), fun h => absurd h (by omega)⟩, hk, vW, vL, hpre, hW, Fr.of _ rfl ⟨rfl, rfl, rfl, rfl, rfl, rfl, rfl, trivial⟩⟩

set_option maxRecDepth 100000 in
set_option maxHeartbeats 1000000 in
theorem pyln (w0 : World) (vt vg vn : Value) (ts : List ByteArray) (left : List Int) (ws : List ByteArray) (N : Nat) (h : PyH w0 vt vg vn ts left ws N) (pn : PyN ws N) (k : Int) : T3 Try.prog (fun a w => (0 ≤ k ∧ k < N) ∧ ∃ (vW vL : Value), (NoErr (gErr ts left ws) (k + 1)) ∧ (Pr2 w0 w 3 vW vL (upL (winL ts left ws (k + 1))) (upL (realL ts.length (losL ts left ws (k + 1))))) ∧ Fr 88 [(0, vt), (2, vn), (6, vW), (7, vL), (17, vg), (18, .int .i64 N), (19, .int .i64 k)] a) (sel [1, 1, 0, 1, 4, 4, 1, 1, 1] pyP) (fun a w => pylI w0 vt vg vn ts left ws N h pn (k + 1) a w) No 9 (fun a w => ∃ vW vL : Value, Fr 88 [(6, vW), (7, vL), (8, .int .i64 (rndE ts left ws))] a ∧ Pr2 w0 w 3 vW vL (pyW ts left ws) (pyL ts left ws)) := by
  refine T3.leaf ?_
  rintro Q JS JX JT K hS hK hX hE hT hR a w ⟨hk, vW, vL, hpre, hW, ⟨fr, rfl, q0, q2, q6, q7, q17, q18, q19, _⟩⟩
  obtain ⟨hk0, hk1⟩ := hk
  have n16 := h.l.n16
  rw [fr_pyP, show fr 0 = _ from q0, show fr 2 = _ from q2, show fr 6 = _ from q6, show fr 7 = _ from q7, show fr 17 = _ from q17, show fr 18 = _ from q18, show fr 19 = _ from q19]
  clear q0 q2 q6 q7 q17 q18 q19
  conv => arg 2; whnf
  go_wp2_with fail
  refine Met.intro (hS _ _ ?_)
  exact ⟨⟨by omega, by omega⟩, vW, vL, hpre, hW, Fr.of _ rfl ⟨rfl, rfl, rfl, rfl, rfl, rfl, rfl, trivial⟩⟩

set_option maxRecDepth 100000 in
set_option maxHeartbeats 1000000 in
theorem pylloop (w0 : World) (vt vg vn : Value) (ts : List ByteArray) (left : List Int) (ws : List ByteArray) (N : Nat) (h : PyH w0 vt vg vn ts left ws N) (pn : PyN ws N) : T3 Try.prog (fun a w => pylI w0 vt vg vn ts left ws N h pn 0 a w) (sel [1, 1, 0, 1] pyP) (fun a w => ∃ (vW vL : Value), (NoErr (gErr ts left ws) N) ∧ (Pr2 w0 w 3 vW vL (upL (winL ts left ws N)) (upL (realL ts.length (losL ts left ws N)))) ∧ Fr 88 [(6, vW), (7, vL)] a) No 9 (fun a w => ∃ vW vL : Value, Fr 88 [(6, vW), (7, vL), (8, .int .i64 (rndE ts left ws))] a ∧ Pr2 w0 w 3 vW vL (pyW ts left ws) (pyL ts left ws)) := by
  refine T3.loop (c := (sel [1, 1, 0, 1, 4, 4] pyP)) (fun ng_ a w => ∃ k : Int, (ng_ : Int) = N - k ∧ pylI w0 vt vg vn ts left ws N h pn k a w) (fun a w h => ⟨(N : Int).toNat, 0, by have := h.1.2; omega, h⟩) (fun ng_ => T3.ex fun k => T3.pure fun hng_ => ?_)
  refine T3.seq (s := (sel [1, 1, 0, 1, 4, 4, 0] pyP)) (c := (sel [1, 1, 0, 1, 4, 4, 1] pyP)) ((pylt w0 vt vg vn ts left ws N h pn k).noX) ?_
  refine T3.seq (s := (sel [1, 1, 0, 1, 4, 4, 1, 0] pyP)) (c := (sel [1, 1, 0, 1, 4, 4, 1, 1] pyP)) (S := fun a w => (0 ≤ k ∧ k < N) ∧ ∃ (vW vL : Value), (NoErr (gErr ts left ws) k) ∧ (Pr2 w0 w 3 vW vL (upL (winL ts left ws k)) (upL (realL ts.length (losL ts left ws k)))) ∧ Fr 88 [(0, vt), (2, vn), (6, vW), (7, vL), (17, vg), (18, .int .i64 N), (19, .int .i64 k)] a) ?_ (T3.seq (s := (sel [1, 1, 0, 1, 4, 4, 1, 1, 0] pyP)) (c := (sel [1, 1, 0, 1, 4, 4, 1, 1, 1] pyP)) (S := fun a w => (0 ≤ k ∧ k < N) ∧ ∃ (vW vL : Value), (NoErr (gErr ts left ws) (k + 1)) ∧ (Pr2 w0 w 3 vW vL (upL (winL ts left ws (k + 1))) (upL (realL ts.length (losL ts left ws (k + 1))))) ∧ Fr 88 [(0, vt), (2, vn), (6, vW), (7, vL), (17, vg), (18, .int .i64 N), (19, .int .i64 k)] a) (T3.noX (T3.mono (R' := fun a w => (0 ≤ k ∧ k < N) ∧ ∃ (vW vL : Value), (NoErr (gErr ts left ws) k) ∧ (Pr2 w0 w 3 vW vL (upL (winL ts left ws k)) (upL (realL ts.length (losL ts left ws k)))) ∧ Fr 88 [(0, vt), (2, vn), (6, vW), (7, vL), (17, vg), (18, .int .i64 N), (19, .int .i64 k)] a) (S' := fun a w => (0 ≤ k ∧ k < N) ∧ ∃ (vW vL : Value), (NoErr (gErr ts left ws) (k + 1)) ∧ (Pr2 w0 w 3 vW vL (upL (winL ts left ws (k + 1))) (upL (realL ts.length (losL ts left ws (k + 1))))) ∧ Fr 88 [(0, vt), (2, vn), (6, vW), (7, vL), (17, vg), (18, .int .i64 N), (19, .int .i64 k)] a) (pyb w0 vt vg vn ts left ws N h pn k) (fun a w ⟨hk, vW, vL, hp, hI⟩ => ⟨vW, vL, ⟨hk, hp⟩, hI⟩) (fun a w ⟨vW, vL, ⟨hk, hp⟩, hI⟩ => ⟨hk, vW, vL, hp, hI⟩) (fun _ _ q => q) (fun _ _ q => q))) ?_)
  · refine T3.cond (o := .tmp 20) (x := .skip) (y := .exit 0) (fun a w => k < N ∧ pylI w0 vt vg vn ts left ws N h pn k a w) (fun a w => ¬ k < N ∧ pylI w0 vt vg vn ts left ws N h pn k a w) ?_ (T3.skip ?_) (T3.exit ?_)
    · rintro a w ⟨q, hF, hq, hI⟩
      have he := hF.eval 20 (by decide) (v := .bool q) (by simp)
      cases q
      · exact .inr ⟨he, (fun h => by have := hq.2 h; cases this), hI⟩
      · exact .inl ⟨he, hq.1 rfl, hI⟩
    · rintro a w ⟨hlt, hk, hI⟩
      exact ⟨⟨hk.1, hlt⟩, hI⟩
    · rintro a w ⟨hlt, hk, hI⟩
      obtain rfl : k = N := by omega
      obtain ⟨vW, vL, hn, hW, hF⟩ := hI
      exact ⟨vW, vL, hn, hW, hF.sub (by simp)⟩
  · intro a w hx
    have hk := hx.1
    exact (((pyln w0 vt vg vn ts left ws N h pn k).noX).post (fun a w q => ⟨ng_ - 1, by omega, k + 1, by omega, q⟩)) a w hx
theorem pyl_len {ts : List ByteArray} {left : List Int} {ws : List ByteArray} {N : Nat} (l : LOk ts left N) : (upL (realL ts.length (losL ts left ws N))).length ≤ 1000 := by
  have := l.n16
  rw [upL_length]
  exact Nat.le_trans (List.length_filter_le _ _) (by simp [losL]; omega)
set_option maxRecDepth 100000 in
set_option maxHeartbeats 1000000 in
theorem py15 (w0 : World) (vt vg vn : Value) (ts : List ByteArray) (left : List Int) (ws : List ByteArray) (N : Nat) (h : PyH w0 vt vg vn ts left ws N) (vW vL : Value) : T3 Try.prog (fun a w => (Pr2 w0 w 3 vW vL (upL (winL ts left ws N)) (upL (realL ts.length (losL ts left ws N)))) ∧ Fr 88 [(6, vW), (7, vL)] a) (sel [1, 1, 1, 0] pyP) (fun a w => (Pr2 w0 w 3 vW vL (upL (winL ts left ws N)) (sortL (upL (realL ts.length (losL ts left ws N))))) ∧ Fr 88 [(6, vW), (7, vL)] a) No 9 (fun a w => ∃ vW vL : Value, Fr 88 [(6, vW), (7, vL), (8, .int .i64 (rndE ts left ws))] a ∧ Pr2 w0 w 3 vW vL (pyW ts left ws) (pyL ts left ws)) := by
  refine T3.leaf ?_
  rintro Q JS JX JT K hS hK hX hE hT hR a w ⟨hW, ⟨fr, rfl, q6, q7, _⟩⟩
  have hl := pyl_len (ws := ws) h.l
  have HC := Lib.hid (sort_own vL _ _ _ w hW.rl (by omega))
  have HW := Lib.hid (fun w' L' ho g => Pr2.sort (w' := w') (L' := L') hW ho g)
  have hlS := sortL_length (upL (realL ts.length (losL ts left ws N)))
  obtain ⟨pw, cw, hvw⟩ := (Row.of_owns hW.rw).shape
  subst hvw
  obtain ⟨pl, cl, hvl⟩ := (Row.of_owns hW.rl).shape
  subst hvl
  clear hW
  have HLS := Lib.hid hlS
  clear hlS
  generalize upL (realL ts.length (losL ts left ws N)) = LL at *
  generalize upL (winL ts left ws N) = WW at *
  rw [fr_pyP, show fr 6 = _ from q6, show fr 7 = _ from q7]
  clear q6 q7
  conv => arg 2; whnf
  go_wp2_with fail
  refine HC.out.mono ?_
  rintro e w1 ⟨rfl, ho, g⟩
  have hR := Lib.hid (HW.out w1 (sortL LL) (by rw [HLS.out]; exact ho) g)
  clear ho g
  go_wp2_with fail
  refine Met.intro (hS _ _ ?_)
  exact ⟨hR.out, Fr.of _ rfl ⟨rfl, rfl, trivial⟩⟩

set_option maxRecDepth 100000 in
set_option maxHeartbeats 1000000 in
theorem py16 (w0 : World) (vt vg vn : Value) (ts : List ByteArray) (left : List Int) (ws : List ByteArray) (N : Nat) (h : PyH w0 vt vg vn ts left ws N) (vW vL : Value) : T3 Try.prog (fun a w => (Pr2 w0 w 3 vW vL (upL (winL ts left ws N)) (sortL (upL (realL ts.length (losL ts left ws N))))) ∧ Fr 88 [(6, vW), (7, vL)] a) (sel [1, 1, 1, 1, 0] pyP) (fun a w => (Pr2 w0 w 3 vW vL (upL (winL ts left ws N)) (sortL (upL (realL ts.length (losL ts left ws N))))) ∧ Fr 88 [(6, vW), (7, vL), (8, .int .i64 0)] a) No 9 (fun a w => ∃ vW vL : Value, Fr 88 [(6, vW), (7, vL), (8, .int .i64 (rndE ts left ws))] a ∧ Pr2 w0 w 3 vW vL (pyW ts left ws) (pyL ts left ws)) := by
  refine T3.leaf ?_
  rintro Q JS JX JT K hS hK hX hE hT hR a w ⟨hW, ⟨fr, rfl, q6, q7, _⟩⟩
  have HW := Lib.hid hW
  obtain ⟨pw, cw, hvw⟩ := (Row.of_owns hW.rw).shape
  subst hvw
  obtain ⟨pl, cl, hvl⟩ := (Row.of_owns hW.rl).shape
  subst hvl
  clear hW
  generalize sortL (upL (realL ts.length (losL ts left ws N))) = LL at *
  generalize upL (winL ts left ws N) = WW at *
  rw [fr_pyP, show fr 6 = _ from q6, show fr 7 = _ from q7]
  clear q6 q7
  conv => arg 2; whnf
  go_wp2_with fail
  refine Met.intro (hS _ _ ?_)
  exact ⟨HW.out, Fr.of _ rfl ⟨rfl, rfl, rfl, trivial⟩⟩

set_option maxRecDepth 100000 in
set_option maxHeartbeats 1000000 in
theorem py_all (w0 : World) (vt vg vn : Value) (ts : List ByteArray) (left : List Int) (ws : List ByteArray) (N : Nat) (h : PyH w0 vt vg vn ts left ws N) : T3 Try.prog (fun a w => (IsW w0 w) ∧ Fr 88 [(0, vt), (1, vg), (2, vn)] a) pyP No No 9 (fun a w => ∃ vW vL : Value, Fr 88 [(6, vW), (7, vL), (8, .int .i64 (rndE ts left ws))] a ∧ Pr2 w0 w 3 vW vL (pyW ts left ws) (pyL ts left ws)) := by
  refine T3.seq (s := (sel [0] pyP)) (c := (sel [1] pyP)) (py0 w0 vt vg vn ts left ws N h) ?_
  refine T3.seq (s := (sel [1, 0] pyP)) (c := (sel [1, 1] pyP)) (S := fun a w => (PyN ws N) ∧ (IsW w0 w) ∧ Fr 88 [(0, vt), (1, vg), (2, vn), (6, .slice none 0 0), (7, .slice none 0 0)] a) ?_ (T3.pure fun pn => ?_)
  · refine T3.test (s := (sel [1, 0, 0] pyP)) (x := (sel [1, 0, 1, 2] pyP)) (y := .skip) (C := fun q => (q = ((ws.length : Int) != N))) (W := fun w => IsW w0 w) (by decide) (py1 w0 vt vg vn ts left ws N h) ?_ (T3.skip ?_)
    · refine T3.seq (s := (sel [1, 0, 1, 2, 0] pyP)) (c := .ret) (t3_seqx (p := ws.length ≠ N) (py2 w0 vt vg vn ts left ws N h) ?_) (T3.ret ?_)
      · rintro a w ⟨hF, hq, hW⟩
        exact ⟨by have := hq.symm; simp only [bne_iff_ne, ne_eq] at this; omega, hW, hF.tail⟩
      · rintro a w ⟨hp, hW, hF⟩
        have e := rnd_form (ws := ws) h.l hp
        obtain rfl : w = w0 := hW
        refine ⟨_, _, by rw [e]; exact hF, ?_⟩
        unfold pyW pyL
        rw [if_neg (by rw [e]; decide), if_neg (by rw [e]; decide)]
        exact ⟨Below.refl _ _, World.ownsRow_nil _ _ _ _, World.ownsRow_nil _ _ _ _, fun k hk => by cases hk⟩
    · rintro a w ⟨hq, hW, hF⟩
      have e : (ws.length : Int) = N := by simpa using hq.symm
      exact ⟨⟨by omega, by omega⟩, hW, hF⟩
  refine T3.seq (s := (sel [1, 1, 0] pyP)) (c := (sel [1, 1, 1] pyP)) (T3.seq (s := (sel [1, 1, 0, 0] pyP)) (c := (sel [1, 1, 0, 1] pyP)) (py3 w0 vt vg vn ts left ws N h) (pylloop w0 vt vg vn ts left ws N h pn)) ?_
  refine T3.ex fun vW => T3.ex fun vL => T3.pre (R := fun a w => (NoErr (gErr ts left ws) N) ∧ (Pr2 w0 w 3 vW vL (upL (winL ts left ws N)) (upL (realL ts.length (losL ts left ws N)))) ∧ Fr 88 [(6, vW), (7, vL)] a) (T3.pure fun hn => ?_) (fun a w q => q)
  refine T3.seq (s := (sel [1, 1, 1, 0] pyP)) (c := (sel [1, 1, 1, 1] pyP)) (py15 w0 vt vg vn ts left ws N h vW vL) ?_
  refine T3.seq (s := (sel [1, 1, 1, 1, 0] pyP)) (c := .ret) (py16 w0 vt vg vn ts left ws N h vW vL) (T3.ret ?_)
  rintro a w ⟨hW, hF⟩
  have e := rnd_ok h.l pn hn
  have eN : N = ws.length := by have := pn.lo; have := pn.hi; omega
  refine ⟨_, _, by rw [e]; exact hF, ?_⟩
  unfold pyW pyL
  rw [if_pos e, if_pos e, ← eN]
  exact hW

set_option maxRecDepth 100000 in
set_option maxHeartbeats 1000000 in
theorem played_prog (w0 : World) (vt vg vn : Value) (ts : List ByteArray) (left : List Int) (ws : List ByteArray) (N : Nat) (h : PyH w0 vt vg vn ts left ws N) : Calls Try.prog 59 #[vt, vg, vn] w0 fun e w' => ∃ vW vL : Value, e = .returned (.tuple #[vW, vL, .int .i64 (rndE ts left ws)]) ∧ Pr2 w0 w' 3 vW vL (pyW ts left ws) (pyL ts left ws) := by
  have hall := py_all w0 vt vg vn ts left ws N h
  go_enter Try.func59, Try.ntmps59
  refine T3.done (s := pyP) hall ⟨rfl, Fr.of _ rfl ⟨rfl, rfl, rfl, trivial⟩⟩ ?_
  rintro a w ⟨vW, vL, ⟨fr, rfl, q6, q7, q8, _⟩, hW⟩
  rw [fr_pyP, show fr 6 = _ from q6, show fr 7 = _ from q7, show fr 8 = _ from q8]
  go_ret3
  exact ⟨_, _, rfl, hW⟩
end Go.Proofs.Ytkdimgghljklmaa
/-
  Finals: plain lemmas on the rounds of a bracket: who is left, in which order the others fall. No condition on a program.
-/
set_option linter.unusedVariables false
namespace Go.Proofs.Ytkdimgghljklmaa
open Go.RowKit Go.Bw
def left0 (n : Nat) : List Int := (bracketL (n : Int)).map fun x => x - 1
theorem up_left0 (n : Nat) : upL (left0 n) = bracketL (n : Int) := by
  unfold upL left0
  rw [List.map_map]
  conv => rhs; rw [← List.map_id (bracketL (n : Int))]
  exact List.map_congr_left fun x _ => by simp
def wsAt (rs : List (List ByteArray)) (k : Nat) : List ByteArray := rs.getD k []
def leftK (ts : List ByteArray) (rs : List (List ByteArray)) : Nat → List Int
  | 0 => left0 ts.length
  | k + 1 => winL ts (leftK ts rs k) (wsAt rs k) (wsAt rs k).length
def losK (ts : List ByteArray) (rs : List (List ByteArray)) (k : Nat) : List Int := losL ts (leftK ts rs k) (wsAt rs k) (wsAt rs k).length
def ordK (ts : List ByteArray) (rs : List (List ByteArray)) : Nat → List Int
  | 0 => []
  | k + 1 => sortL (upL (realL ts.length (losK ts rs k))) ++ ordK ts rs k
def rndK (ts : List ByteArray) (rs : List (List ByteArray)) (k : Int) : Int := rndE ts (leftK ts rs k.toNat) (wsAt rs k.toNat)
def rN (ts : List ByteArray) : Nat := (roundsF ts.length).toNat
theorem rN_b {ts : List ByteArray} (h : SGood ts) : 1 ≤ rN ts ∧ rN ts ≤ 5 ∧ ((rN ts : Nat) : Int) = roundsF ts.length := by
  have h1 := roundsF_le ts.length
  have h2 : 1 ≤ roundsF ts.length := by
    have := h.n2
    unfold roundsF; repeat' split
    all_goals omega
  unfold rN
  omega
theorem left0_all : ∀ n : Fin 21, 2 ≤ n.val → ((left0 n.val).all (fun x => decide (0 ≤ x)) && (List.range ((left0 n.val).length / 2)).all (fun j => decide (geti (left0 n.val) (2 * (j : Int)) < (n.val : Int)) || decide (geti (left0 n.val) (2 * (j : Int) + 1) < (n.val : Int)))) = true := by decide +kernel
/-- What holds of who is left ahead of round k. -/
structure LkI (ts : List ByteArray) (rs : List (List ByteArray)) (k : Nat) : Prop where
  len : (leftK ts rs k).length = 2 ^ (rN ts - k)
  a0 : ∀ i : Int, 0 ≤ i → i < (leftK ts rs k).length → 0 ≤ geti (leftK ts rs k) i
  one : ∀ j : Int, 0 ≤ j → 2 * j + 1 < (leftK ts rs k).length → gA (leftK ts rs k) j < ts.length ∨ gB (leftK ts rs k) j < ts.length
theorem left0_len {ts : List ByteArray} (h : SGood ts) : (left0 ts.length).length = 2 ^ rN ts := by
  have h1 := (bracketL_length ts.length (by have := h.n2; omega) (by have := h.n20; omega)).2.1
  have h2 := rN_b h
  unfold left0
  rw [List.length_map]
  have h3 : ((2 : Int) ^ (rN ts)) = (((2 ^ rN ts : Nat)) : Int) := by simp
  unfold rN at *
  omega
theorem lk_zero {ts : List ByteArray} (h : SGood ts) (rs : List (List ByteArray)) : LkI ts rs 0 := by
  have hd := left0_all ⟨ts.length, by have := h.n20; omega⟩ h.n2
  simp only [Bool.and_eq_true, List.all_eq_true, decide_eq_true_eq, Bool.or_eq_true, List.mem_range] at hd
  refine ⟨by simpa [leftK] using left0_len h, fun i h0 h1 => ?_, fun j h0 h1 => ?_⟩
  · exact hd.1 _ (geti_mem h0 h1)
  · have h1' : 2 * j + 1 < (left0 ts.length).length := h1
    have := hd.2 j.toNat (by omega)
    rw [Int.toNat_of_nonneg h0] at this
    exact this
theorem LkI.ok {ts : List ByteArray} {rs : List (List ByteArray)} {k : Nat} (l : LkI ts rs k) (h : SGood ts) (hk : k < rN ts) : LOk ts (leftK ts rs k) (2 ^ (rN ts - k - 1)) := by
  have h5 := rN_b h
  have e : 2 ^ (rN ts - k) = 2 * 2 ^ (rN ts - k - 1) := by
    rw [show rN ts - k = (rN ts - k - 1) + 1 by omega, Nat.pow_succ]
    simp [Nat.mul_comm]
  have h16 : 2 ^ (rN ts - k - 1) ≤ 2 ^ 4 := Nat.pow_le_pow_right (by decide) (by omega)
  refine ⟨by rw [l.len, e], h16, l.a0, fun j h0 h1 => l.one j h0 ?_⟩
  rw [l.len, e]
  omega
theorem winL_length (ts : List ByteArray) (left : List Int) (ws : List ByteArray) (k : Nat) : (winL ts left ws (k : Int)).length = k := by simp [winL]
theorem winL_at (ts : List ByteArray) (left : List Int) (ws : List ByteArray) (k : Nat) (i : Int) (h0 : 0 ≤ i) (h1 : i < k) : geti (winL ts left ws (k : Int)) i = gWin ts left ws i := by
  have : i.toNat < k := by omega
  simp [geti, winL, this, Int.toNat_of_nonneg h0]
theorem rnd_zero {ts : List ByteArray} {left : List Int} {ws : List ByteArray} {N : Nat} (l : LOk ts left N) (h : rndE ts left ws = 0) : PyN ws N ∧ NoErr (gErr ts left ws) N := by
  have hl := l.len
  by_cases hn : ws.length = N
  · have pn : PyN ws N := ⟨by omega, by omega⟩
    rw [rnd_rest l pn, hn] at h
    exact ⟨pn, fun j h0 h1 => firstErr_zero h j h0 h1⟩
  · rw [rnd_form l hn] at h
    cases h
theorem win_in {ts : List ByteArray} (hg : SGood ts) {left : List Int} {ws : List ByteArray} {N : Nat} (l : LOk ts left N) (hn : NoErr (gErr ts left ws) N) (j : Int) (h0 : 0 ≤ j) (h1 : j < N) : 0 ≤ gWin ts left ws j ∧ gWin ts left ws j < ts.length := by
  have hl := l.len
  have hb : ¬ badG ts (gA left j) (gB left j) (geta ws j) := fun e => by
    have := hn j h0 h1
    unfold gErr at this
    rw [if_pos e] at this
    cases this
  have a0 := l.a0 (2 * j) (by omega) (by omega)
  have b0 := l.a0 (2 * j + 1) (by omega) (by omega)
  have hgi := game_of hg (gA left j) (gB left j) (geta ws j) a0 b0 (l.one j h0 h1) hb
  have hw := whoI_cases ts (geta ws j)
  have e : gWin ts left ws j = whoI ts (geta ws j) := by
    show winG _ _ _ _ = _
    cases hgi <;> omega
  have hne : gWin ts left ws j = gA left j ∨ gWin ts left ws j = gB left j := by
    show winG _ _ _ _ = _ ∨ winG _ _ _ _ = _
    unfold winG
    split
    · exact .inl rfl
    · exact .inr rfl
  have hp : 0 ≤ gWin ts left ws j := by
    rcases hne with e | e <;> rw [e]
    · exact a0
    · exact b0
  refine ⟨hp, ?_⟩
  rw [e] at hp ⊢
  rcases hw with ⟨e, _⟩ | ⟨_, e, _⟩ <;> omega
theorem lk_step {ts : List ByteArray} (hg : SGood ts) {rs : List (List ByteArray)} {k : Nat} (l : LkI ts rs k) (hk : k < rN ts) (h : rndE ts (leftK ts rs k) (wsAt rs k) = 0) : LkI ts rs (k + 1) ∧ (wsAt rs k).length = 2 ^ (rN ts - k - 1) := by
  have ok := l.ok hg hk
  obtain ⟨pn, hn⟩ := rnd_zero ok h
  have hlen : (wsAt rs k).length = 2 ^ (rN ts - k - 1) := by have := pn.lo; have := pn.hi; omega
  have hl : (leftK ts rs (k + 1)).length = 2 ^ (rN ts - (k + 1)) := by
    show (winL ts (leftK ts rs k) (wsAt rs k) (wsAt rs k).length).length = _
    rw [winL_length, hlen]
    congr 1
  have hin : ∀ i : Int, 0 ≤ i → i < (leftK ts rs (k + 1)).length → 0 ≤ geti (leftK ts rs (k + 1)) i ∧ geti (leftK ts rs (k + 1)) i < ts.length := fun i h0 h1 => by
    have h2 : i < (wsAt rs k).length := by
      have : (leftK ts rs (k + 1)).length = (wsAt rs k).length := by
        show (winL ts (leftK ts rs k) (wsAt rs k) (wsAt rs k).length).length = _
        rw [winL_length]
      omega
    show 0 ≤ geti (winL ts (leftK ts rs k) (wsAt rs k) (wsAt rs k).length) i ∧ geti (winL ts (leftK ts rs k) (wsAt rs k) (wsAt rs k).length) i < _
    rw [winL_at _ _ _ _ _ h0 h2]
    exact win_in hg ok hn i h0 (by omega)
  refine ⟨⟨hl, fun i h0 h1 => (hin i h0 h1).1, fun j h0 h1 => .inl (hin (2 * j) (by omega) (by omega)).2⟩, hlen⟩
theorem lk_all {ts : List ByteArray} (hg : SGood ts) {rs : List (List ByteArray)} : ∀ (k : Nat), k ≤ rN ts → NoErr (rndK ts rs) k → LkI ts rs k
  | 0, _, _ => lk_zero hg rs
  | k + 1, hk, hn => by
    have h1 := lk_all hg (rs := rs) k (by omega) (fun j h0 h1 => hn j h0 (by omega))
    have h2 := hn (k : Int) (by omega) (by omega)
    unfold rndK at h2
    rw [Int.toNat_natCast] at h2
    exact (lk_step hg h1 (by omega) h2).1
/-- What is wrong, and the order. -/
def playE (ts : List ByteArray) (rs : List (List ByteArray)) : Int := if seedsE ts ≠ 0 then seedsE ts else if (rs.length : Int) ≠ roundsF ts.length then 3 else firstErr (rndK ts rs) rs.length
def playO (ts : List ByteArray) (rs : List (List ByteArray)) : List Int := upL (leftK ts rs rs.length) ++ ordK ts rs rs.length
def namesO (ts : List ByteArray) (l : List Int) : List ByteArray := l.map fun i => geta ts (i - 1)
def playL (ts : List ByteArray) (rs : List (List ByteArray)) : List ByteArray := if playE ts rs = 0 then namesO ts (playO ts rs) else []
theorem pe_seeds {ts : List ByteArray} {rs : List (List ByteArray)} (h : seedsE ts ≠ 0) : playE ts rs = seedsE ts := by unfold playE; rw [if_pos h]
theorem pe_form {ts : List ByteArray} {rs : List (List ByteArray)} (h : seedsE ts = 0) (h2 : (rs.length : Int) ≠ roundsF ts.length) : playE ts rs = 3 := by unfold playE; rw [if_neg (by simp [h]), if_pos h2]
theorem pe_hit {ts : List ByteArray} {rs : List (List ByteArray)} (h : seedsE ts = 0) (h2 : (rs.length : Int) = roundsF ts.length) {k : Int} (h0 : 0 ≤ k) (h1 : k < rs.length) (hn : NoErr (rndK ts rs) k) (he : rndK ts rs k ≠ 0) : playE ts rs = rndK ts rs k := by
  unfold playE
  rw [if_neg (by simp [h]), if_neg (by simp [h2]), firstErr_hit hn h0 h1 he]
theorem pe_ok {ts : List ByteArray} {rs : List (List ByteArray)} (h : seedsE ts = 0) (h2 : (rs.length : Int) = roundsF ts.length) (hn : NoErr (rndK ts rs) rs.length) : playE ts rs = 0 := by
  unfold playE
  rw [if_neg (by simp [h]), if_neg (by simp [h2]), firstErr_none hn]
theorem playL_bad {ts : List ByteArray} {rs : List (List ByteArray)} (h : playE ts rs ≠ 0) : playL ts rs = [] := by unfold playL; rw [if_neg h]
/-- The order's numbers are those of seeds. -/
theorem sortL_mem (l : List Int) (x : Int) : x ∈ sortL l ↔ x ∈ l := by unfold sortL; exact List.mem_mergeSort
theorem ordK_in {ts : List ByteArray} (hg : SGood ts) {rs : List (List ByteArray)} : ∀ (k : Nat), k ≤ rN ts → NoErr (rndK ts rs) k → (∀ x ∈ ordK ts rs k, 1 ≤ x ∧ x ≤ ts.length) ∧ (ordK ts rs k).length ≤ 100 * k
  | 0, _, _ => ⟨fun x hx => (by cases hx), Nat.zero_le _⟩
  | k + 1, hk, hn => by
    have hn' : NoErr (rndK ts rs) k := fun j h0 h1 => hn j h0 (by omega)
    obtain ⟨ih1, ih2⟩ := ordK_in hg (rs := rs) k (by omega) hn'
    have l := lk_all hg (rs := rs) k (by omega) hn'
    have h2 := hn (k : Int) (by omega) (by omega)
    unfold rndK at h2
    rw [Int.toNat_natCast] at h2
    have ok := l.ok hg (by omega)
    obtain ⟨pn, hnn⟩ := rnd_zero ok h2
    have n16 := ok.n16
    refine ⟨fun x hx => ?_, ?_⟩
    · rcases List.mem_append.1 hx with hx | hx
      · rw [sortL_mem] at hx
        unfold upL realL losK losL at hx
        simp only [List.mem_map, List.mem_filter, List.mem_range, decide_eq_true_eq] at hx
        obtain ⟨y, ⟨⟨j, hj, rfl⟩, hy⟩, rfl⟩ := hx
        have hlen := ok.len
        have hjN : (j : Int) < ((2 ^ (rN ts - k - 1) : Nat) : Int) := by have := pn.lo; omega
        have a0 := ok.a0 (2 * (j : Int)) (by omega) (by omega)
        have b0 := ok.a0 (2 * (j : Int) + 1) (by omega) (by omega)
        have : 0 ≤ gLos ts (leftK ts rs k) (wsAt rs k) (j : Int) := by
          show 0 ≤ losG _ _ _ _
          unfold losG
          split
          · exact b0
          · exact a0
        omega
      · exact ih1 x hx
    · show (sortL _ ++ ordK ts rs k).length ≤ _
      rw [List.length_append, sortL_length, upL_length]
      have h3 : (realL ts.length (losK ts rs k)).length ≤ (wsAt rs k).length := Nat.le_trans (List.length_filter_le _ _) (by simp [losK, losL])
      have := pn.lo
      omega
end Go.Proofs.Ytkdimgghljklmaa
/-
  The law of XBwReg inside a round of a range over a function, for regions that neither call a function nor defer. No condition on a program.
-/
set_option linter.unusedVariables false
namespace Go.Bw
open Go.RowKit
section
variable {P : Program} {ops : Array Oper} {Q : Exit → Act → World → Prop} {md : Region.Mode} {F : Fence} {n : Nat}

def NoEnter : Result Next → Prop | .ok (.value _) _ => True | .ok .skip _ => True | .halt _ _ => True | _ => False
theorem ne_v {s : Sem Value} {w : World} : NoEnter ((do pure (Next.value (← s)) : Sem Next).run P w) := by
  rw [Sem.run_bind]
  cases s.run P w <;> simp [NoEnter]
theorem ne_u {s : Sem Unit} {w : World} : NoEnter ((do s; pure Next.skip : Sem Next).run P w) := by
  rw [Sem.run_bind]
  cases s.run P w <;> simp [NoEnter]

def plainB (o : Oper) : Bool := match o.op with
  | .move _ | .assign _ | .slice .. | .alloc _ | .build .. | .buildSlice .. | .load .. | .store .. | .indexAddr .. | .fieldAddr .. => true
  | .call { callee := .builtin .min, .. } | .call { callee := .builtin .max, .. } | .call { callee := .builtin .len, .. } => true
  | .binOp .. => true
  | _ => false

theorem plain_run (o : Oper) (ρ : Operand → Value) (w : World) (h : plainB o = true) : NoEnter ((execOp ρ o).run P w) ∧ o.about P w ρ = none ∧ ∀ c, o.op ≠ .defer c := by
  obtain ⟨dst, op, type, pos, after, guard⟩ := o
  cases op <;> first | (exfalso; simp [plainB] at h; done) | skip
  case call c =>
    obtain ⟨callee, args, argTypes⟩ := c
    cases callee <;> first | (exfalso; simp [plainB] at h; done) | skip
    rename_i b
    cases b <;> first | (exfalso; simp [plainB] at h; done) | skip
    all_goals
      refine ⟨?_, ?_, ?_⟩
      · simp only [execOp, resolve, Sem.run_bind, Sem.run_pure, Result.andThen_ok, invoke, builtin]
        generalize Sem.run P _ w = r
        cases r <;> trivial
      · first | rfl | trivial
      · intro c; nofun
  case move x => exact ⟨by simp [execOp, NoEnter], by first | trivial | rfl, by simp⟩
  case assign x => exact ⟨by simp [execOp, NoEnter], by first | trivial | rfl, by simp⟩
  all_goals exact ⟨by unfold execOp; (first | exact ne_v | exact ne_u), by first | trivial | rfl, by simp⟩

theorem wpOpIn_of_wpOp {i : Nat} {K : Act → World → Prop} {a : Act} {w : World} (hp : ∀ o, ops[i]? = some o → plainB o = true) (hQ : ¬ LetsOut Q) (h : wpOp P ops Q i K a w) : wpOpIn F n P ops Q i K a w := by
  unfold wpOp at h
  unfold wpOpIn
  cases ho : ops[i]? with
  | none => simpa [ho] using h
  | some o =>
    obtain ⟨h1, h2, h3⟩ := plain_run (P := P) o a.eval w (hp o ho)
    simp only [ho] at h ⊢
    split
    · rename_i hw
      simp only [hw, if_true] at h
      rcases h with h | ⟨_, h⟩
      · unfold Oper.wp at h
        unfold Oper.wpIn
        rw [Oper.semAt_eq _ _ _ h3]
        refine ⟨fun f hf => (by rw [h2] at hf; cases hf), ?_⟩
        generalize (execOp a.eval o).run P w = r at *
        cases r with
        | ok x w' => cases x <;> simp only [Oper.upon, Oper.uponIn] at h ⊢ <;> first | exact h | exact h1.elim
        | halt x w' => cases x <;> simp only [Oper.upon, Oper.uponIn] at h ⊢ <;> exact h
      · exact absurd h hQ
    · rename_i hw
      simp only [hw] at h
      exact ⟨fun f hf => (by rw [h2] at hf; cases hf), h⟩

theorem wpAnyIn_of (hp : ∀ (i : Nat) (o : Oper), ops[i]? = some o → plainB o = true) (hQ : ¬ LetsOut Q) : ∀ (fuel : Nat) (listed : Array Bool) (a : Act) (w : World), wpAny P md ops Q fuel listed a w → wpAnyIn F n P md ops Q fuel listed a w
  | 0, _, _, _, h => h
  | fuel + 1, _, _, _, h => ⟨h.1, fun i hi => wpOpIn_mono (fun a' w' h' => wpAnyIn_of hp hQ fuel _ a' w' h') (wpOpIn_of_wpOp (hp i) hQ (h.2 i hi))⟩

def noOut (Q : Exit → Act → World → Prop) : Exit → Act → World → Prop
  | .normal, a, w => Q .normal a w
  | _, _, _ => False

theorem wpIn_region_calm {id : Nat} {a : Act} {w : World} {l : List Oper} (cs ns : List Nat) (hm : P.follows .mixedOrders = true)
    (hB : (Region.noSelect l.toArray && calmB .any l.toArray (fun i => cs.contains i) ns cs (Array.replicate l.length false) && (cs ++ ns).all (fun k => decide (k < l.length)) && decide (cs.length + ns.length = l.length)) = true)
    (hpl : l.all plainB = true)
    (h : wpCalm P l.toArray w.drew (fun a' => wpList P l.toArray (noOut Q) (pickOps l ns) a' w.drew) (pickOps l cs) a) : (Code.region id l.toArray true).wpIn F n P Q a w := by
  refine wpIn_mono (Q := noOut Q) ?_ (fun e a w h => by cases e <;> first | exact h | exact h.elim)
  simp only [Bool.and_eq_true, decide_eq_true_eq, List.all_eq_true] at hB
  obtain ⟨⟨⟨hs, hc⟩, hlt⟩, hlen⟩ := hB
  refine wpIn_region_any hm (wpAnyIn_of (fun i o ho => ?_) (fun ⟨_, _, h⟩ => h) _ _ _ _ (wpAny_of_G (mask := fun i => cs.contains i) _ _ _ _ ?_))
  · have : o ∈ l := by
      have := Array.mem_of_getElem? ho
      simpa using this
    exact List.all_eq_true.1 hpl o this
  · have hd : Down .any l.toArray (Array.replicate l.length false) := fun j oj _ hl => by
      rw [getD_replicate_false] at hl; cases hl
    have := calm_G (Q := noOut Q) w.drew ns hs (fun c a d v w h => h.elim) (fun k hk => hlt k (by simp [hk])) cs (Array.replicate l.length false) a hd hc (fun k hk => hlt k (by simp [hk])) h
    rw [hlen] at this
    simpa using this
/-- append of news to a slice that the call owns, in a fence. -/
theorem app_lawIn {rest : List Oper} {o : Oper} {a : Act} {W : World} (hgd : o.guard = none) (s x : Operand) (t : TypeId)
    (ho : o.op = .call { callee := .builtin .append, args := #[s, x], argTypes := #[t, t] })
    {e : TypeId} {z : Value} {size bytes : Nat} (E : Elem P t e z size bytes) {base : Nat} {v : Value} {k : Nat} {xs : List Value} (hown : W.ownsRow base e size v k xs) (hs : a.eval s = v)
    {g m c : Nat} (news : List Value) (hx : a.eval x = .slice (some ⟨g, 0, none⟩) m c) (hl : news.length = m * size) (hnews : ∀ j u, news[j]? = some u → W.cell? ⟨g, j, none⟩ = some u) (h1 : ∀ u ∈ news, u.oneCell' = true)
    (hlim : k + m ≤ 1099511627776) (hbase : base ≤ W.heap.size)
    (h : ∀ v' w', w'.ownsRow base e size v' (k + m) (xs ++ news) → W.grownBy w' v.ownBlock → wpListIn F n P ops Q rest (a.put o.dst v') w') : wpListIn F n P ops Q (o :: rest) a W := by
  obtain ⟨i, hi, hz0, hz1, hz2⟩ := info_parts E.hi
  refine wpListIn_append_own W hgd s x t ho base e i z size bytes E.ht hi hz0 hz1 hz2 E.hz E.hs v k xs hs hown ⟨g, 0, none⟩ m c news hx hl (fun j u hj => ?_) h1 (by unfold maxLen; omega) ?_ hbase (fun v' w' h1 h2 _ => h v' w' h1 h2)
  · rw [Addr.add_lit]
    simpa using hnews j u hj
  · have := Nat.mul_le_mul hlim E.hb
    omega
end

theorem grown_of_drew {w w' : World} {row : Option Nat} (g : w.drew.grownBy w' row) : w.grownBy w' row := ⟨g.os, g.tape, g.output, g.size, g.block⟩
theorem grown_to_drew {w w' : World} {row : Option Nat} (g : w.grownBy w' row) : w.grownBy w'.drew row := ⟨g.os, g.tape, g.output, g.size, g.block⟩
end Go.Bw
/-
  The program's pairing of those who follow each other, by slices.Chunk. Conditions: an even number of at most 64 numbers, in a slice that is not nil.
-/
set_option linter.unusedVariables false
namespace Go.Proofs.Ytkdimgghljklmaa
open Go.RowKit Go.Bw Go.Shelf

attribute [local go_sem] Oper.semAt_some

/-- The offsets 0, 2, .. of k pairs. -/
def offs (k : Nat) : List Int := (List.range k).map fun (j : Nat) => 2 * (j : Int)
theorem offs_succ (k : Nat) : offs (k + 1) = offs k ++ [2 * (k : Int)] := by simp [offs, List.range_succ]
theorem offs_length (k : Nat) : (offs k).length = k := by simp [offs]

set_option maxRecDepth 100000 in
set_option maxHeartbeats 1000000 in
theorem chunk_in (F : Fence) (n : Nat) (h5 : F.fn 80) (hro : F.round = none) (a : Option Addr) (len cap : Nat) (w : World) :
    CallsIn F n Try.prog 80 #[.slice a len cap, .int .i64 2] w fun e w' => e = .returned (.func (.func 86) #[] #[.pointer (some ⟨w.heap.size, 0, none⟩), .pointer (some ⟨w.heap.size + 1, 0, none⟩)]) ∧
      w' = (w.alloc (.cells #[.slice a len cap] 22)).alloc (.cells #[.int .i64 2] 3) := by
  refine callsIn_of_wp Try.func80 rfl h5 ?_ hro
  simp only [Try.ntmps80, List.size_toArray, List.length_cons, List.length_nil, Nat.reduceAdd, Nat.reduceSub, Array.replicate_succ, Array.replicate_zero, List.push_toArray, List.append_toArray, List.nil_append, List.cons_append]
  gi_wp2
  go_ret
  exact ⟨rfl, rfl⟩

/-- An offset of a pair. -/
abbrev Off (N : Nat) := { o : Int // 0 ≤ o ∧ o + 2 ≤ 2 * (N : Int) }

/-- What a round keeps: old blocks, and the two boxes of slices.Chunk. -/
def KpC (n₀ Bs Bn : Nat) (W W' : World) : Prop := Below n₀ W W' ∧ W'.heap[Bs]? = W.heap[Bs]? ∧ W'.heap[Bn]? = W.heap[Bn]?
theorem KpC.trans {n₀ Bs Bn : Nat} {A B C : World} (h : KpC n₀ Bs Bn A B) (k : KpC n₀ Bs Bn B C) : KpC n₀ Bs Bn A C := ⟨h.1.trans k.1, k.2.1.trans h.2.1, k.2.2.trans h.2.2⟩

set_option maxRecDepth 100000 in
set_option maxHeartbeats 2000000 in
theorem chunk1_in (F : Fence) (n : Nat) (h7 : F.fn 86) (hro : F.round = none) (hn : 1 ≤ n) (l Bs Bn n₀ b off cap N : Nat) (hN : N ≤ 32) (hcap : 2 * N ≤ cap) (hcm : cap ≤ 9223372036854775807) (J Jx : List (Off N) → World → Prop) (hJd : ∀ pre W, J pre W → J pre W.drew)
    (hY : ∀ pre x W, J pre W → pre.length < N → YieldAt F (n - 1) Try.prog l #[.slice (some ⟨b, off + x.1.toNat, none⟩) 2 2] W fun e W' =>
      (e = .returned (.bool true) ∧ J (pre ++ [x]) W' ∧ KpC n₀ Bs Bn W W') ∨ (e = .returned (.bool false) ∧ Jx (pre ++ [x]) W'))
    (W : World) (hs : W.cell? ⟨Bs, 0, none⟩ = some (.slice (some ⟨b, off, none⟩) (2 * N) cap)) (hm : W.cell? ⟨Bn, 0, none⟩ = some (.int .i64 2)) (h0 : J [] W) :
    CallsIn F n Try.prog 86 #[.func (.yield l) #[] #[], .pointer (some ⟨Bs, 0, none⟩), .pointer (some ⟨Bn, 0, none⟩)] W fun e W' => (∃ v, e = .returned v) ∧
      ((∃ ys, ys.map Subtype.val = offs N ∧ J ys W') ∨ (∃ pre, True ∧ Jx pre W')) := by
  refine callsIn_of_wp Try.func86 rfl h7 ?_ hro
  simp only [Try.ntmps86, List.size_toArray, List.length_cons, List.length_nil, Nat.reduceAdd, Nat.reduceSub, Array.replicate_succ, Array.replicate_zero, List.push_toArray, List.append_toArray, List.nil_append, List.cons_append]
  gi_wp2
  gi_loopw [4] (fun i wr => ∃ (k : Nat) (j : Int) (pre : List (Off N)), k ≤ N ∧ 0 ≤ j ∧ Hid (j = 2 * (k : Int)) ∧ i = .int .i64 j ∧ Hid (pre.map Subtype.val = offs k) ∧ J pre wr ∧ KpC n₀ Bs Bn W wr)
    (fun i _ => 2 * N - (intOf i).toNat)
  case atStart => exact ⟨0, 0, [], Nat.zero_le _, by omega, rfl, rfl, rfl, h0, Below.refl _ _, rfl, rfl⟩
  case round =>
    obtain ⟨k, j, pre, hk, hj0, hj, rfl, hpre, hJs, hnx⟩ := hrel
    have c1 : wr.cell? ⟨Bs, 0, none⟩ = some (.slice (some ⟨b, off, none⟩) (2 * N) cap) := (World.cell?_of_block (a := ⟨Bs, 0, none⟩) hnx.2.1).trans hs
    have c2 : wr.cell? ⟨Bn, 0, none⟩ = some (.int .i64 2) := (World.cell?_of_block (a := ⟨Bn, 0, none⟩) hnx.2.2).trans hm
    by_cases hlt : k < N
    · have hjl : j + 2 ≤ ((2 * N : Nat) : Int) := by have := hj.out; omega
      have hjn : j < ((2 * N : Nat) : Int) := by omega
      have hpl : pre.length < N := by
        have := congrArg List.length hpre.out
        rw [List.length_map, offs_length] at this
        omega
      obtain ⟨fn, tmps, assign, body, hy, hR⟩ := hY pre ⟨j, hj0, by omega⟩ wr.drew (hJd _ _ hJs) hpl
      dsimp only at hy
      have hA := @cell?_allocs
      obtain ⟨m, hm1⟩ : ∃ m, 2 * N - j.toNat = m := ⟨_, rfl⟩
      have hm2 : min 2 (m : Int) = 2 := by omega
      have hm3 : (j + 2).toNat - j.toNat = 2 := by omega
      have hq1 : j ≤ 2 * (N : Int) := by omega
      have hq2 : ¬ cap = j.toNat := by omega
      have hq3 : j + 2 ≤ (cap : Int) := by omega
      have hq4 : j ≤ j + 2 := by omega
      have hj2 : 0 ≤ j + 2 := by omega
      gi_wp2
      refine wpIn_region_calm [0, 1, 2, 3, 4, 5] [6] (by kernel_rfl) (by kernel_rfl) (by kernel_rfl) ?_
      simp only [pickOps, List.filterMap_cons, List.filterMap_nil, List.getElem?_cons_succ, List.getElem?_cons_zero]
      repeat (refine wpCalm_step (fun K hK => ?_); go_simp; refine hK _ ?_; clear hK K)
      refine wpCalm_nil ?_
      clear hA
      go_wp2
      simp only [noOut]
      gi_wp2
      refine hR.mono ?_
      rintro e W3 (⟨rfl, hJ3, hk3⟩ | ⟨rfl, hJx3⟩)
      · have hnx3 : KpC n₀ Bs Bn W W3 := hnx.trans ⟨((Below.refl n₀ wr).drew).trans hk3.1, hk3.2.1, hk3.2.2⟩
        have d1 := (World.cell?_of_block (a := ⟨Bs, 0, none⟩) hnx3.2.1).trans hs
        have d2 := (World.cell?_of_block (a := ⟨Bn, 0, none⟩) hnx3.2.2).trans hm
        gi_wp2
        go_roundw
        case rel => exact ⟨k + 1, j + 2, _, by omega, hj2, (by show _ = _; have := hj.out; omega), rfl, (by show _ = _; rw [List.map_append, hpre.out, offs_succ, ← hj.out]; rfl), hJ3, hnx3⟩
        case measure => simp [intOf]; omega
      · gi_wp2
        refine bodyPost_ret (results_none rfl _ _ _) rfl ?_
        exact ⟨⟨_, rfl⟩, .inr (by first | exact ⟨_, trivial, hJx3⟩ | exact ⟨_, hJx3⟩)⟩
    · have hjl : ¬ j < ((2 * N : Nat) : Int) := by have := hj.out; omega
      obtain rfl : k = N := by omega
      gi_wp2
      go_end0
      exact ⟨⟨_, rfl⟩, .inl ⟨pre, hpre.out, hJs⟩⟩

/-- slices.Chunk's value hands out the pairs' offsets. -/
theorem chunk_stops (F : Fence) (n : Nat) (h7 : F.fn 86) (hro : F.round = none) (hn : 1 ≤ n) (Bs Bn n₀ b off cap N : Nat) (hN : N ≤ 32) (hcap : 2 * N ≤ cap) (hcm : cap ≤ 9223372036854775807) (w : World) (hBs : Bs < w.heap.size) (hBn : Bn < w.heap.size)
    (hs : w.cell? ⟨Bs, 0, none⟩ = some (.slice (some ⟨b, off, none⟩) (2 * N) cap)) (hm : w.cell? ⟨Bn, 0, none⟩ = some (.int .i64 2)) :
    SeqStopsK F n Try.prog 86 #[.pointer (some ⟨Bs, 0, none⟩), .pointer (some ⟨Bn, 0, none⟩)] (fun x : Off N => #[.slice (some ⟨b, off + x.1.toNat, none⟩) 2 2]) (KpC n₀ Bs Bn) (fun ys => ys.map Subtype.val = offs N) (fun _ => True) N w := fun l J Jx W hW hJ _ hY h0 =>
  chunk1_in F n h7 hro hn l Bs Bn n₀ b off cap N hN hcap hcm J Jx (fun pre W1 h => hJ pre W1 W1.drew none h ⟨rfl, rfl, rfl, Nat.le_refl _, fun _ _ _ => rfl⟩ (fun r e => by cases e)) hY W ((hW.cell (p := ⟨Bs, 0, none⟩) hBs).trans hs) ((hW.cell (p := ⟨Bn, 0, none⟩) hBn).trans hm) h0

theorem gms_offs (many : Int) (l : List Int) (k : Nat) : gms many l k = (offs k).map (gm many l) := by
  simp [gms, offs, Function.comp_def]

theorem boxed_app {W w1 : World} {n₀ Bo R : Nat} {t e : TypeId} {size : Nat} {v v' : Value} {k m : Nat} {xs ys : List Value} {tmp : Obj} (hv : Boxed W Bo t v) (hrow : W.ownsRow R e size v k xs) (hn : n₀ ≤ Bo) (hBR : Bo < R) (hR : R ≤ W.heap.size)
    (hown' : w1.ownsRow R e size v' m ys) (hg : (W.alloc tmp).grownBy w1 v.ownBlock) :
    Boxed w1 Bo t v ∧ Boxed (w1.setCell ⟨Bo, 0, none⟩ v') Bo t v' ∧ (w1.setCell ⟨Bo, 0, none⟩ v').ownsRow R e size v' m ys ∧ KeepsOthers W (w1.setCell ⟨Bo, 0, none⟩ v') ∧ Below n₀ W (w1.setCell ⟨Bo, 0, none⟩ v') ∧
      (∀ k, k < R → k ≠ Bo → (w1.setCell ⟨Bo, 0, none⟩ v').heap[k]? = W.heap[k]?) := by
  have hne : some Bo ≠ v.ownBlock := fun h => by have := (hrow.lt Bo h.symm).1; omega
  have hne' : v'.ownBlock ≠ some Bo := fun h => by have := (hown'.lt Bo h).1; omega
  have hv1 : Boxed w1 Bo t v := (hv.alloc tmp).kept hg hne
  refine ⟨hv1, hv1.set v', hown'.kept (grownBy_setCell' w1 Bo v') (.inr hne'), ?_, ?_, ?_⟩
  · refine ((KeepsOthers.alloc W tmp).trans (KeepsOthers.of_grownBy hg fun j o ej hj => ?_)).trans (KeepsOthers.setCell _ _ _)
    rcases (hrow.alloc tmp).2 with ⟨rfl, _⟩ | ⟨g, cap, cur, rfl, _, hgb, _⟩
    · simp [Value.ownBlock] at ej
    · obtain rfl : g = j := by simpa [Value.ownBlock] using ej
      rw [hgb] at hj; cases hj; rfl
  · exact (((Below.refl n₀ W).alloc (by omega) tmp).grown hg (by simp; omega) fun j ej => by have := (hrow.lt j ej).1; omega).setCell (p := ⟨Bo, 0, none⟩) hn v'
  · intro k hk hkB
    rw [Below.heap_setCell _ _ _ _ hkB, hg.block k (by simp; omega) (fun h => by have := (hrow.lt k h.symm).1; omega), Below.heap_alloc _ _ _ (by omega)]

set_option maxRecDepth 100000 in
set_option maxHeartbeats 4000000 in
theorem paired_any (many : Int) (l : List Int) (b off cap N : Nat) (w : World) (hN : N ≤ 32) (hl : l.length = 2 * N) (hcap : 2 * N ≤ cap) (hcm : cap ≤ 9223372036854775807) (hb : b < w.heap.size)
    (hcell : ∀ i : Int, 0 ≤ i → i < l.length → w.cell? ⟨b, off + i.toNat, none⟩ = some (.int .i64 (geti l i))) :
    Calls Try.prog 57 #[.slice (some ⟨b, off, none⟩) (2 * N) cap, .int .i64 many] w fun e w' => ∃ v, e = .returned v ∧ w'.ownsRow w.heap.size 84 2 v N (cells2 (gms many l N)) ∧ Below w.heap.size w w' := by
  have hE := el_pair2
  refine (callsIn_wide (n := 3)).1 ?_
  refine callsIn_of_wp_marks Try.func57 rfl trivial ?_ rfl
  simp only [Try.ntmps57, List.size_toArray, List.length_cons, List.length_nil, Nat.reduceAdd, Nat.reduceSub, Array.replicate_succ, Array.replicate_zero, List.push_toArray, List.append_toArray, List.nil_append, List.cons_append]
  gi_wp2_with (refine ⟨trivial, ?_⟩; gi_at_call 80; refine (chunk_in Fence.wide (3 - 1) trivial rfl _ _ _ _).mono ?_; rintro e w' ⟨rfl, rfl⟩)
  have hsz4 : ((((w.alloc (.cells #[.int .i64 many] 3)).alloc (.cells #[.slice none 0 0] 80)).alloc (.cells #[.slice (some ⟨b, off, none⟩) (2 * N) cap] 22)).alloc (.cells #[.int .i64 2] 3)).heap.size = w.heap.size + 4 := by simp
  have hB4 : Below w.heap.size w ((((w.alloc (.cells #[.int .i64 many] 3)).alloc (.cells #[.slice none 0 0] 80)).alloc (.cells #[.slice (some ⟨b, off, none⟩) (2 * N) cap] 22)).alloc (.cells #[.int .i64 2] 3)) :=
    ((((Below.refl _ w).alloc (Nat.le_refl _) _).alloc (by simp) _).alloc (by simp; omega) _).alloc (by simp; omega) _
  have bM : Boxed ((((w.alloc (.cells #[.int .i64 many] 3)).alloc (.cells #[.slice none 0 0] 80)).alloc (.cells #[.slice (some ⟨b, off, none⟩) (2 * N) cap] 22)).alloc (.cells #[.int .i64 2] 3)) w.heap.size 3 (.int .i64 many) := (((Boxed.new w _ _).alloc _).alloc _).alloc _
  have bO : Boxed ((((w.alloc (.cells #[.int .i64 many] 3)).alloc (.cells #[.slice none 0 0] 80)).alloc (.cells #[.slice (some ⟨b, off, none⟩) (2 * N) cap] 22)).alloc (.cells #[.int .i64 2] 3)) (w.heap.size + 1) 80 (.slice none 0 0) := by
    have := ((Boxed.new (w.alloc (.cells #[.int .i64 many] 3)) 80 (.slice none 0 0)).alloc (.cells #[.slice (some ⟨b, off, none⟩) (2 * N) cap] 22)).alloc (.cells #[.int .i64 2] 3)
    rwa [World.size_alloc] at this
  have bS : Boxed ((((w.alloc (.cells #[.int .i64 many] 3)).alloc (.cells #[.slice none 0 0] 80)).alloc (.cells #[.slice (some ⟨b, off, none⟩) (2 * N) cap] 22)).alloc (.cells #[.int .i64 2] 3)) (w.heap.size + 2) 22 (.slice (some ⟨b, off, none⟩) (2 * N) cap) := by
    have := (Boxed.new ((w.alloc (.cells #[.int .i64 many] 3)).alloc (.cells #[.slice none 0 0] 80)) 22 (.slice (some ⟨b, off, none⟩) (2 * N) cap)).alloc (.cells #[.int .i64 2] 3)
    rwa [World.size_alloc, World.size_alloc] at this
  have bN : Boxed ((((w.alloc (.cells #[.int .i64 many] 3)).alloc (.cells #[.slice none 0 0] 80)).alloc (.cells #[.slice (some ⟨b, off, none⟩) (2 * N) cap] 22)).alloc (.cells #[.int .i64 2] 3)) (w.heap.size + 3) 3 (.int .i64 2) := by
    have := Boxed.new (((w.alloc (.cells #[.int .i64 many] 3)).alloc (.cells #[.slice none 0 0] 80)).alloc (.cells #[.slice (some ⟨b, off, none⟩) (2 * N) cap] 22)) 3 (.int .i64 2)
    rwa [World.size_alloc, World.size_alloc, World.size_alloc] at this
  generalize hw4 : ((((w.alloc (.cells #[.int .i64 many] 3)).alloc (.cells #[.slice none 0 0] 80)).alloc (.cells #[.slice (some ⟨b, off, none⟩) (2 * N) cap] 22)).alloc (.cells #[.int .i64 2] 3)) = w4 at *
  clear hw4
  try rw [show w.heap.size + 1 + 1 = w.heap.size + 2 from rfl]
  refine wpIn_rangeFunc_ownG rfl (by omega) (gf := 86) (lb := #[.pointer (some ⟨w.heap.size + 2, 0, none⟩), .pointer (some ⟨w.heap.size + 3, 0, none⟩)]) rfl trivial (enters_of Try.func86 (by kernel_rfl) rfl)
    (chunk_stops Fence.wide (3 - 1) trivial rfl (by omega) (w.heap.size + 2) (w.heap.size + 3) w.heap.size b off cap N hN hcap hcm w4 (by omega) (by omega) bS.cell bN.cell) KpC.trans
    (fun W l o o' h1 h2 h3 h4 => ⟨belowK_b (w := w) (Nat.le_refl _) W l o o' (by omega) h2 h3 h4, World.putObj_heap_other (by omega), World.putObj_heap_other (by omega)⟩) (Below.refl _ _) (fun _ => rfl)
    (fun (pre : List (Off N)) W => ((∃ v, Boxed W (w.heap.size + 1) 80 v ∧ W.ownsRow (w.heap.size + 4) 84 2 v pre.length (cells2 ((pre.map Subtype.val).map (gm many l))) ∧ True) ∧ Boxed W w.heap.size 3 (.int .i64 many)) ∧ Below w.heap.size w4 W)
    (fun _ _ _ => False)
    (OwnFrom.and (OwnFrom.and (Own.from (holdsRow_own (w.heap.size + 4) (w.heap.size + 1) 80 84 2 (fun (pre : List (Off N)) => pre.length) (fun (pre : List (Off N)) => cells2 ((pre.map Subtype.val).map (gm many l))) (fun _ _ => True)) _)
      (Own.from (fun s A B row hs hg hr => hs.kept hg (fun e => (by obtain ⟨o, ho, hc⟩ := hr _ e.symm; rw [show A.heap[w.heap.size]? = _ from hs] at ho; cases ho; cases hc))) _)) (ownFrom_below (by omega) (by omega)))
    (fun _ _ _ _ _ hs _ _ => hs)
    ⟨⟨⟨_, bO, World.ownsRow_nil _ _ _ _, trivial⟩, bM⟩, Below.refl _ _⟩
    (fun x => { tmps := #[.slice (some ⟨b, off, none⟩) (2 * N) cap, .int .i64 many, undef, .pointer (some ⟨w.heap.size, 0, none⟩), .slice none 0 0, .pointer (some ⟨w.heap.size + 1, 0, none⟩), .slice (some ⟨b, off + x.1.toNat, none⟩) 2 2, undef, .slice (some ⟨b, off, none⟩) (2 * N) cap, .func (.func 86) #[] #[.pointer (some ⟨w.heap.size + 2, 0, none⟩), .pointer (some ⟨w.heap.size + 3, 0, none⟩)], .slice (some ⟨b, off + x.1.toNat, none⟩) 2 2, undef, undef, undef, undef, undef, undef, undef, undef, undef, undef, undef, undef, undef, undef, undef, undef, undef, undef, undef, undef, undef, undef, undef, undef, undef], defers := [] }) ?assign ?body ?done ?stop
  case assign =>
    intro l x W K hK
    gi_wp2
    exact hK
  case body =>
    rintro l' pre ⟨x, hx0, hx2⟩ W ⟨⟨⟨v, hv, hrow, _⟩, hbm⟩, hB⟩ hlt
    dsimp only
    have hbm1 : ∀ o, (W.alloc o).cell? ⟨w.heap.size, 0, none⟩ = some (.int .i64 many) := fun o => (hbm.alloc o).cell
    have hv1' : ∀ o, (W.alloc o).cell? ⟨w.heap.size + 1, 0, none⟩ = some v := fun o => (hv.alloc o).cell
    have hsW : w.heap.size + 4 ≤ W.heap.size := by have := hB.size; omega
    have hc0 : W.cell? ⟨b, off + x.toNat, none⟩ = some (.int .i64 (geti l x)) := ((hB4.trans hB).cell (p := ⟨b, off + x.toNat, none⟩) hb).trans (hcell x hx0 (by omega))
    have hc1 : W.cell? ⟨b, off + x.toNat + 1, none⟩ = some (.int .i64 (geti l (x + 1))) := by
      have := ((hB4.trans hB).cell (p := ⟨b, off + (x + 1).toNat, none⟩) hb).trans (hcell (x + 1) (by omega) (by omega))
      rwa [show off + (x + 1).toNat = off + x.toNat + 1 by omega] at this
    have Hgm : Hid (gm many l x = (min (geti l x) (geti l (x + 1)), if many < max (geti l x) (geti l (x + 1)) then 0 else max (geti l x) (geti l (x + 1)))) := rfl
    generalize geti l x = x0 at *
    generalize geti l (x + 1) = x1 at *
    have hn : ∀ (p : Int × Int), gm many l x = p → cells2 (((pre ++ [(⟨x, hx0, hx2⟩ : Off N)]).map Subtype.val).map (gm many l)) = cells2 ((pre.map Subtype.val).map (gm many l)) ++ [.int .i64 p.1, .int .i64 p.2] := by
      intro p hp
      rw [List.map_append, List.map_append, List.map_cons, List.map_nil, List.map_cons, List.map_nil, cells2_snoc, hp]
    have Hn := Lib.hid hn
    clear hcell bS bN bO bM hn
    by_cases hmx : many < max x0 x1
    all_goals
      have hA := @cell?_allocs
      gi_wp2
      refine wpIn_region_calm [0, 1, 2, 3, 4, 5, 6, 7, 8, 9, 10, 11, 12, 13, 14] [15, 16] (by kernel_rfl) (by kernel_rfl) (by kernel_rfl) ?_
      simp only [pickOps, List.filterMap_cons, List.filterMap_nil, List.getElem?_cons_succ, List.getElem?_cons_zero]
      repeat (refine wpCalm_step (fun K hK => ?_); go_simp; refine hK _ ?_; clear hK K)
      refine wpCalm_nil ?_
      clear hA
      go_wp2
      simp only [noOut]
    · gi_wp2_with (gi_at_builtin; refine app_lawIn rfl _ _ _ rfl hE ((hrow.alloc _).alloc _) rfl [.int .i64 (min x0 x1), .int .i64 0] rfl rfl (cells_at (W.alloc _) #[_, _] _ _ (by simp)) (by simp [Value.oneCell']) (by omega) (by simp; omega) ?_; intro v' w1 hown' hgr; obtain ⟨g', cap', rfl⟩ := ownsRow_succ hown'; obtain ⟨hv1, hv2, hr2, hk2, hb2, hh2⟩ := boxed_app (n₀ := w.heap.size) (hv.alloc _) (hrow.alloc _) (by omega) (by omega) (by simp; omega) hown' (grown_of_drew hgr); have hc1 := hv1.cell; have hf1 := hv1.frozen)
      refine ⟨((KeepsOthers.alloc W _).trans hk2).from _, ⟨((Below.refl w.heap.size W).alloc (by omega) _).trans hb2, ?_, ?_⟩, ⟨⟨⟨_, hv2, ?_, trivial⟩, ?_⟩, hB.trans (((Below.refl w.heap.size W).alloc (by omega) _).trans hb2)⟩⟩
      · rw [hh2 _ (by omega) (by omega)]; exact Below.heap_alloc _ _ _ (by omega)
      · rw [hh2 _ (by omega) (by omega)]; exact Below.heap_alloc _ _ _ (by omega)
      · rw [Hn.out (min x0 x1, 0) (by rw [Hgm.out]; rw [if_pos hmx]), List.length_append]; exact hr2
      · show _ = _; rw [hh2 _ (by omega) (by omega), Below.heap_alloc _ _ _ (by omega)]; exact hbm
    · gi_wp2_with (gi_at_builtin; refine app_lawIn rfl _ _ _ rfl hE ((hrow.alloc _).alloc _) rfl [.int .i64 (min x0 x1), .int .i64 (max x0 x1)] rfl rfl (cells_at (W.alloc _) #[_, _] _ _ (by simp)) (by simp [Value.oneCell']) (by omega) (by simp; omega) ?_; intro v' w1 hown' hgr; obtain ⟨g', cap', rfl⟩ := ownsRow_succ hown'; obtain ⟨hv1, hv2, hr2, hk2, hb2, hh2⟩ := boxed_app (n₀ := w.heap.size) (hv.alloc _) (hrow.alloc _) (by omega) (by omega) (by simp; omega) hown' (grown_of_drew hgr); have hc1 := hv1.cell; have hf1 := hv1.frozen)
      refine ⟨((KeepsOthers.alloc W _).trans hk2).from _, ⟨((Below.refl w.heap.size W).alloc (by omega) _).trans hb2, ?_, ?_⟩, ⟨⟨⟨_, hv2, ?_, trivial⟩, ?_⟩, hB.trans (((Below.refl w.heap.size W).alloc (by omega) _).trans hb2)⟩⟩
      · rw [hh2 _ (by omega) (by omega)]; exact Below.heap_alloc _ _ _ (by omega)
      · rw [hh2 _ (by omega) (by omega)]; exact Below.heap_alloc _ _ _ (by omega)
      · rw [Hn.out (min x0 x1, max x0 x1) (by rw [Hgm.out]; rw [if_neg (by omega)]), List.length_append]; exact hr2
      · show _ = _; rw [hh2 _ (by omega) (by omega), Below.heap_alloc _ _ _ (by omega)]; exact hbm
  case done =>
    rintro D ys W hD hys ⟨⟨⟨v, hv, hrow, _⟩, hbm⟩, hB⟩ hK
    have hc := hv.cell
    have hyl := congrArg List.length hys
    rw [List.length_map, offs_length] at hyl
    rw [hys, hyl, ← gms_offs] at hrow
    clear hys hyl
    gi_wp2
    refine ⟨by simp, .inl ⟨_, _, rfl, run_takeDeferred hK, ?_⟩⟩
    exact ⟨_, results_tmp rfl _ _ _, v, rfl, owns_mono (ownsRow_putObj hrow _ hK rfl) (by omega), hB4.trans (hB.trans (belowK_b (w := w) (Nat.le_refl _) W D _ _ (by omega) hK rfl rfl))⟩
  case stop =>
    rintro D c pre W _ _ h _
    exact h.elim

end Go.Proofs.Ytkdimgghljklmaa
/-
  Fixed and First: the program's and the reference's. Conditions: a list of winners of fewer than 2^40 numbers.
-/
set_option linter.unusedVariables false
namespace Go.Proofs.Ytkdimgghljklmaa
open Go.RowKit Go.Bw

/-- What is wrong with winner i. -/
def fixAt (many : Int) (all ws : List Int) (part i : Int) : Int :=
  if outB (geti ws i) 1 many then 1 else if hasI (subl ws 0 i) (geti ws i) then 6 else if hasI (subl all (i * part) ((i + 1) * part)) (geti ws i) then 0 else 13
def oddB (n : Int) : Bool := bits BinOp.and IntKind.i64 n (n - 1) != 0
def fixE (many : Int) (ws : List Int) : Int :=
  if outB many 2 20 then 1 else if 20 < ws.length then 2 else if ws.length < 2 ∨ oddB ws.length = true ∨ (bracketL many).length < 2 * ws.length then 3
  else firstErr (fixAt many (bracketL many) ws ((bracketL many).length / ws.length)) ws.length
def fixR (many : Int) (ws : List Int) : List (Int × Int) := if fixE many ws = 0 then gms many ws (ws.length / 2) else []

theorem fix_1 {many : Int} {ws : List Int} (h : outB many 2 20 = true) : fixE many ws = 1 ∧ fixR many ws = [] := by
  have : fixE many ws = 1 := by simp [fixE, h]
  exact ⟨this, by simp [fixR, this]⟩
theorem fix_2 {many : Int} {ws : List Int} (h : outB many 2 20 = false) (h2 : 20 < ws.length) : fixE many ws = 2 ∧ fixR many ws = [] := by
  have : fixE many ws = 2 := by simp [fixE, h, h2]
  exact ⟨this, by simp [fixR, this]⟩
theorem fix_3 {many : Int} {ws : List Int} (h : outB many 2 20 = false) (h2 : ¬ 20 < ws.length) (h3 : ws.length < 2 ∨ oddB ws.length = true ∨ (bracketL many).length < 2 * ws.length) : fixE many ws = 3 ∧ fixR many ws = [] := by
  have : fixE many ws = 3 := by unfold fixE; rw [if_neg (by simp [h]), if_neg h2, if_pos h3]
  exact ⟨this, by simp [fixR, this]⟩
theorem fix_f {many : Int} {ws : List Int} (h : outB many 2 20 = false) (h2 : ¬ 20 < ws.length) (h3 : ¬ (ws.length < 2 ∨ oddB ws.length = true ∨ (bracketL many).length < 2 * ws.length)) :
    fixE many ws = firstErr (fixAt many (bracketL many) ws ((bracketL many).length / ws.length)) ws.length := by
  unfold fixE; rw [if_neg (by simp [h]), if_neg h2, if_neg h3]
theorem fix_hit {many : Int} {ws : List Int} {P : Int} (hP : ((bracketL many).length : Int) / ws.length = P) (h : outB many 2 20 = false) (h2 : ¬ 20 < ws.length) (h3 : ¬ (ws.length < 2 ∨ oddB ws.length = true ∨ (bracketL many).length < 2 * ws.length)) {i c : Int}
    (hn : NoErr (fixAt many (bracketL many) ws P) i) (h0 : 0 ≤ i) (h1 : i < ws.length) (hc : fixAt many (bracketL many) ws P i = c) (hne : c ≠ 0) : fixE many ws = c ∧ fixR many ws = [] := by
  subst hP
  have : fixE many ws = c := by rw [fix_f h h2 h3, firstErr_hit hn h0 h1 (by rw [hc]; exact hne), hc]
  exact ⟨this, by simp [fixR, this, hne]⟩
theorem fix_0 {many : Int} {ws : List Int} {P : Int} (hP : ((bracketL many).length : Int) / ws.length = P) (h : outB many 2 20 = false) (h2 : ¬ 20 < ws.length) (h3 : ¬ (ws.length < 2 ∨ oddB ws.length = true ∨ (bracketL many).length < 2 * ws.length))
    (hn : NoErr (fixAt many (bracketL many) ws P) ws.length) : fixE many ws = 0 ∧ fixR many ws = gms many ws (ws.length / 2) := by
  subst hP
  have : fixE many ws = 0 := by rw [fix_f h h2 h3, firstErr_none hn]
  exact ⟨this, by simp [fixR, this]⟩

theorem even_of (n : Nat) (h : 2 ≤ n) (h' : n ≤ 20) (ho : oddB n = false) : n % 2 = 0 := by
  have : n = 2 ∨ n = 3 ∨ n = 4 ∨ n = 5 ∨ n = 6 ∨ n = 7 ∨ n = 8 ∨ n = 9 ∨ n = 10 ∨ n = 11 ∨ n = 12 ∨ n = 13 ∨ n = 14 ∨ n = 15 ∨ n = 16 ∨ n = 17 ∨ n = 18 ∨ n = 19 ∨ n = 20 := by omega
  rcases this with rfl | rfl | rfl | rfl | rfl | rfl | rfl | rfl | rfl | rfl | rfl | rfl | rfl | rfl | rfl | rfl | rfl | rfl | rfl
  all_goals first | rfl | exact absurd ho (by decide +kernel)

/-- The part of winner k. -/
theorem part_bounds (L n : Nat) (k : Int) (h0 : 0 ≤ k) (h1 : k < n) (hL : L ≤ 64) (hn : 2 * n ≤ L) : 0 ≤ k * ((L : Int) / n) ∧ k * ((L : Int) / n) < (k + 1) * ((L : Int) / n) ∧ (k + 1) * ((L : Int) / n) ≤ L ∧ 1 ≤ (L : Int) / n ∧ (L : Int) / n ≤ L := by
  have hn0 : (0 : Int) < n := by omega
  have hp : 1 ≤ (L : Int) / n := by
    have : (1 : Int) * n ≤ L := by omega
    exact (Int.le_ediv_iff_mul_le hn0).2 this
  have hm : (n : Int) * ((L : Int) / n) ≤ L := Int.mul_ediv_self_le (by omega)
  have h2 : (k + 1) * ((L : Int) / n) ≤ n * ((L : Int) / n) := Int.mul_le_mul_of_nonneg_right (by omega) (by omega)
  have h3 : (k + 1) * ((L : Int) / n) = k * ((L : Int) / n) + (L : Int) / n := by rw [Int.add_mul, Int.one_mul]
  have h4 : 0 ≤ k * ((L : Int) / n) := Int.mul_nonneg h0 (by omega)
  have h5 : (L : Int) / n ≤ L := Int.ediv_le_self _ (by omega)
  omega

theorem paired_n (many : Int) (l : List Int) (b off cap n N : Nat) (w : World) (hn : n = 2 * N) (hN : N ≤ 32) (hl : l.length = n) (hcap : n ≤ cap) (hcm : cap ≤ 9223372036854775807) (hb : b < w.heap.size)
    (hcell : ∀ i : Int, 0 ≤ i → i < l.length → w.cell? ⟨b, off + i.toNat, none⟩ = some (.int .i64 (geti l i))) :
    Calls Try.prog 57 #[.slice (some ⟨b, off, none⟩) n cap, .int .i64 many] w fun e w' => ∃ v, e = .returned v ∧ w'.ownsRow w.heap.size 84 2 v N (cells2 (gms many l N)) ∧ Below w.heap.size w w' := by
  subst hn
  exact paired_any many l b off cap N w hN hl hcap hcm hb hcell

def firstR (many : Int) : List (Int × Int) := if outB many 2 20 then [] else gms many (bracketL many) ((bracketL many).length / 2)

theorem bracket_even (many : Int) (hm : 2 ≤ many) (hm' : many ≤ 20) : (bracketL many).length % 2 = 0 := by
  have hL := bracketL_length many hm hm'
  have h1 : 1 ≤ roundsF many := by
    unfold roundsF; repeat' split
    all_goals omega
  have h2 : roundsF many = 1 ∨ roundsF many = 2 ∨ roundsF many = 3 ∨ roundsF many = 4 ∨ roundsF many = 5 := by have := roundsF_le many; omega
  have := hL.2.1
  rcases h2 with h2 | h2 | h2 | h2 | h2 <;> rw [h2] at this <;> simp at this <;> omega

set_option maxRecDepth 100000 in
set_option maxHeartbeats 1000000 in
theorem first_prog (many : Int) (w : World) : Calls Try.prog 54 #[.int .i64 many] w fun e w' => ∃ v, e = .returned (.tuple #[v, .int .i64 (manyF many)]) ∧ w'.ownsRow w.heap.size 84 2 v (firstR many).length (cells2 (firstR many)) ∧ Below w.heap.size w w' := by
  cases h : outB many 2 20
  · have h2 := outB_false h
    have hL := (bracketL_length many h2.1 h2.2).2.2
    have hev := bracket_even many h2.1 h2.2
    have hR := Lib.hid (show firstR many = gms many (bracketL many) ((bracketL many).length / 2) by simp [firstR, h])
    rw [manyF_ok h]
    go_enter Try.func54, Try.ntmps54
    go_wp2_with (first | (go_at_call 79; refine (manyFault_prog _ _).mono ?_; rw [manyF_ok h]; rintro e w1 ⟨rfl, rfl⟩) | (go_at_call 58; refine (places_any _ _ (by omega)).mono ?_; rintro e w1 ⟨g, cap, rfl, hown, hbel⟩; have hsz := owns_sizes hown) | (go_at_call 57; refine (paired_n many (bracketL many) g 0 cap _ ((bracketL many).length / 2) _ (by omega) (by omega) rfl hsz.2.2.1 hsz.2.2.2 hsz.2.1 (by intro i h0 h1; rw [Nat.zero_add]; exact ints_of_owns hown i h0 h1)).mono ?_; rintro e w2 ⟨v2, rfl, hown2, hbel2⟩))
    go_ret2
    exact ⟨_, rfl, by rw [hR.out, gms_length, show (((bracketL many).length : Int) / 2).toNat = (bracketL many).length / 2 by omega]; exact owns_mono hown2 hbel.size, hbel.trans (hbel2.mono hbel.size)⟩
  · have hR := Lib.hid (show firstR many = [] by simp [firstR, h])
    rw [manyF_bad h]
    go_enter Try.func54, Try.ntmps54
    go_wp2_with (go_at_call 79; refine (manyFault_prog _ _).mono ?_; rw [manyF_bad h]; rintro e w1 ⟨rfl, rfl⟩)
    go_ret2
    exact ⟨_, rfl, by rw [hR.out]; exact World.ownsRow_nil _ _ _ _, Below.refl _ _⟩

end Go.Proofs.Ytkdimgghljklmaa
