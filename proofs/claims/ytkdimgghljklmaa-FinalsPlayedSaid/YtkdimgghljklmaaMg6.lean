/-
  Contracts and lemmas towards the statement, of several parts; each part says ahead of it what it holds and under which conditions.
-/
import Derived.Test.YtkdimgghljklmaaMg5
import Derived.Test.YtkdimgghljklmaaMg4
/-
  Finals: a bracket that is played, the program's Play: its pieces. Conditions: strings are no longer than Go's; at most 1000 seeds, rounds and names.
-/
set_option linter.unusedVariables false
namespace Go.Bw
open Go.RowKit
/-- One row laid behind another: both are the call's own. -/
theorem app_rows {P : Program} {ops : Array Oper} {rest : List Oper} {o : Oper} {a : Act} {Q : Exit → Act → World → Prop} {W : World} (hgd : o.guard = none) (s x : Operand) (t : TypeId)
    (ho : o.op = .call { callee := .builtin .append, args := #[s, x], argTypes := #[t, t] })
    {e : TypeId} {z : Value} {bytes : Nat} (E : Elem P t e z 1 bytes) {base b2 : Nat} {v vx : Value} {n m : Nat} {xs ys : List Value} (hown : W.ownsRow base e 1 v n xs) (hs : a.eval s = v)
    (hox : W.ownsRow b2 e 1 vx m ys) (hx : a.eval x = vx) (h1 : ∀ u ∈ ys, u.oneCell' = true) (hlim : n + m ≤ 1099511627776) (hbase : base ≤ W.heap.size)
    (h : ∀ v' w', w'.ownsRow base e 1 v' (n + m) (xs ++ ys) → W.grownBy w' v.ownBlock → wpList P ops Q rest (a.put o.dst v') w') : wpList P ops Q (o :: rest) a W := by
  rcases hox.2 with ⟨rfl, h0⟩ | ⟨g, cap, cur, rfl, hb, hg, hn, hc, hsz, ht⟩
  · obtain ⟨i, hi, hz0, hz1, hz2⟩ := info_parts E.hi
    subst h0
    have hy : ys = [] := List.length_eq_zero_iff.1 (by have := hox.1; simpa using this)
    subst hy
    refine wpList_append_own_none hgd s x t ho base e i 1 E.ht hi v n xs hs hown hx (h v W ?_ (grown_refl _ _))
    simpa using hown
  · refine app_law hgd s x t ho E hown hs ys hx (by have := hox.1; omega) (fun j u hj => ?_) h1 hlim hbase h
    have := hox.cells (g := g) rfl j u hj
    rwa [Addr.add_lit, Nat.zero_add] at this
end Go.Bw
namespace Go.Proofs.Ytkdimgghljklmaa
open Go.RowKit Go.Bw
theorem ints_one (l : List Int) : ∀ u ∈ l.map (Value.int .i64), u.oneCell' = true := by
  intro u hu
  obtain ⟨x, _, rfl⟩ := List.mem_map.1 hu
  rfl
/-- Rounds of names, in memory. -/
structure RsH (w : World) (vr : Value) (rs : List (List ByteArray)) : Prop where
  r : ∃ vs : List Value, Row w 0 1 vr rs.length vs ∧ ∀ k v, vs[k]? = some v → Row w 0 1 v (wsAt rs k).length (cellsOf encSt (wsAt rs k))
  n : rs.length ≤ 1000
  m : ∀ k, (wsAt rs k).length ≤ 1000
theorem RsH.below {w w' : World} {vr : Value} {rs : List (List ByteArray)} (h : RsH w vr rs) (b : Below w.heap.size w w') : RsH w' vr rs := by
  obtain ⟨vs, h1, h2⟩ := h.r
  exact ⟨⟨vs, h1.below b, fun k v hv => (h2 k v hv).below b⟩, h.n, h.m⟩
theorem RsH.shape {w : World} {vr : Value} {rs : List (List ByteArray)} (h : RsH w vr rs) : ∃ a c, vr = .slice a rs.length c := by
  obtain ⟨vs, h1, _⟩ := h.r
  exact h1.shape
/-- The data of a call. -/
structure PlH (w0 : World) (vt vr : Value) (ts : List ByteArray) (rs : List (List ByteArray)) : Prop where
  s : SdH w0 vt ts
  r : RsH w0 vr rs
/-- As many rounds as there must be, of right seeds. -/
structure PlG (ts : List ByteArray) (rs : List (List ByteArray)) : Prop where
  e : seedsE ts = 0
  l : (rs.length : Int) = roundsF ts.length
theorem PlG.lo {ts : List ByteArray} {rs : List (List ByteArray)} (g : PlG ts rs) : rs.length ≤ rN ts ∧ rN ts ≤ rs.length := by
  have := (rN_b (s_good g.e)).2.2
  have := g.l
  omega
/-- Games and order so far. -/
structure PlW (w0 : World) (vg vO : Value) (many : Nat) (left O : List Int) (N : Nat) (w : World) : Prop where
  bel : Below w0.heap.size w0 w
  gr : Row w 0 2 vg N (cells2 (gms many (upL left) N))
  od : w.ownsRow w0.heap.size 3 1 vO O.length (O.map (.int .i64))
theorem PlW.below {w0 w w' : World} {vg vO : Value} {many N : Nat} {left O : List Int} (h : PlW w0 vg vO many left O N w) (b : Below w.heap.size w w') : PlW w0 vg vO many left O N w' :=
  ⟨h.bel.trans (b.mono h.bel.size), h.gr.below b, owns_below h.od b (Nat.le_refl _)⟩
/-- Winners, losers and the order so far. -/
structure P12 (w0 : World) (vW vL vO : Value) (W L O : List Int) (w : World) : Prop where
  bel : Below w0.heap.size w0 w
  rw : w.ownsRow w0.heap.size 3 1 vW W.length (W.map (.int .i64))
  rl : w.ownsRow w0.heap.size 3 1 vL L.length (L.map (.int .i64))
  od : w.ownsRow w0.heap.size 3 1 vO O.length (O.map (.int .i64))
  ne : ∀ k, vW.ownBlock = some k → vL.ownBlock ≠ some k
theorem P12.of {w0 w w' : World} {vg vO vW vL : Value} {many N : Nat} {left O W L : List Int} (h : PlW w0 vg vO many left O N w) (p : Pr2 w w' 3 vW vL W L) : P12 w0 vW vL vO W L O w' :=
  ⟨h.bel.trans (p.bel.mono h.bel.size), owns_mono p.rw h.bel.size, owns_mono p.rl h.bel.size, owns_below h.od p.bel (Nat.le_refl _), p.ne⟩
/-- Winners and the new order. -/
structure P15 (w0 : World) (vW vO : Value) (W O : List Int) (w : World) : Prop where
  bel : Below w0.heap.size w0 w
  rw : w.ownsRow w0.heap.size 3 1 vW W.length (W.map (.int .i64))
  od : w.ownsRow w0.heap.size 3 1 vO O.length (O.map (.int .i64))
theorem P12.app {w0 w w' : World} {vO vW vL v' : Value} {O W L : List Int} (h : P12 w0 vW vL vO W L O w) (ho : w'.ownsRow w0.heap.size 3 1 v' (L.length + O.length) (L.map (.int .i64) ++ O.map (.int .i64))) (g : w.grownBy w' vL.ownBlock) : P15 w0 vW v' W (L ++ O) w' := by
  refine ⟨h.bel.grown g h.bel.size (fun k hk => (h.rl.lt k hk).1), ?_, by rw [List.length_append, List.map_append]; exact ho⟩
  by_cases hn : vW.ownBlock = none
  · exact h.rw.kept g (.inl hn)
  · refine h.rw.kept g (.inr fun he => ?_)
    cases hv : vL.ownBlock with
    | none => rw [hv] at he; exact hn he
    | some k => rw [hv] at he; exact h.ne k he hv
/-- The order alone. -/
structure PO (w0 : World) (vO : Value) (O : List Int) (w : World) : Prop where
  bel : Below w0.heap.size w0 w
  od : w.ownsRow w0.heap.size 3 1 vO O.length (O.map (.int .i64))
theorem P15.all {w0 w w' : World} {vO vW v' : Value} {O W : List Int} (h : P15 w0 vW vO W O w) (ho : w'.ownsRow w0.heap.size 3 1 v' (W.length + O.length) (W.map (.int .i64) ++ O.map (.int .i64))) (g : w.grownBy w' vW.ownBlock) : PO w0 v' (W ++ O) w' :=
  ⟨h.bel.grown g h.bel.size (fun k hk => (h.rw.lt k hk).1), by rw [List.length_append, List.map_append]; exact ho⟩
noncomputable def pzP : Code := (Try.f28.body).getD .skip
set_option maxRecDepth 100000 in
theorem fr_pzP (f : Nat → Value) : frame 83 f = ⟨#[f 0, f 1, f 2, f 3, f 4, f 5, f 6, f 7, f 8, f 9, f 10, f 11, f 12, f 13, f 14, f 15, f 16, f 17, f 18, f 19, f 20, f 21, f 22, f 23, f 24, f 25, f 26, f 27, f 28, f 29, f 30, f 31, f 32, f 33, f 34, f 35, f 36, f 37, f 38, f 39, f 40, f 41, f 42, f 43, f 44, f 45, f 46, f 47, f 48, f 49, f 50, f 51, f 52, f 53, f 54, f 55, f 56, f 57, f 58, f 59, f 60, f 61, f 62, f 63, f 64, f 65, f 66, f 67, f 68, f 69, f 70, f 71, f 72, f 73, f 74, f 75, f 76, f 77, f 78, f 79, f 80, f 81, f 82], []⟩ := by rfl
set_option maxRecDepth 100000 in
set_option maxHeartbeats 1000000 in
theorem pz0 (w0 : World) (vt vr : Value) (ts : List ByteArray) (rs : List (List ByteArray)) (h : PlH w0 vt vr ts rs) : T3 Try.prog (fun a w => (IsW w0 w) ∧ Fr 83 [(0, vt), (1, vr)] a) (sel [0] pzP) (fun a w => (IsW w0 w) ∧ Fr 83 [(0, vt), (1, vr)] a) No 9 (fun a w => ∃ v4 : Value, Fr 83 [(4, v4), (5, .int .i64 (playE ts rs))] a ∧ w.ownsRow w0.heap.size 9 1 v4 (playL ts rs).length (cellsOf encSt (playL ts rs)) ∧ Below w0.heap.size w0 w) := by
  refine T3.leaf ?_
  rintro Q JS JX JT K hS hK hX hE hT hR a w ⟨hW, ⟨fr, rfl, q0, q1, _⟩⟩
  obtain ⟨p1, c1, hv1⟩ := h.s.t.shape
  subst hv1
  obtain ⟨p2, c2, hv2⟩ := h.r.shape
  subst hv2
  rw [fr_pzP, show fr 0 = _ from q0, show fr 1 = _ from q1]
  clear q0 q1
  conv => arg 2; whnf
  go_wp2_with fail
  refine Met.intro (hS _ _ ?_)
  exact ⟨hW, Fr.of _ rfl ⟨rfl, rfl, trivial⟩⟩

set_option maxRecDepth 100000 in
set_option maxHeartbeats 1000000 in
theorem pz1 (w0 : World) (vt vr : Value) (ts : List ByteArray) (rs : List (List ByteArray)) (h : PlH w0 vt vr ts rs) : T3 Try.prog (fun a w => (IsW w0 w) ∧ Fr 83 [(0, vt), (1, vr)] a) (sel [1, 0, 0] pzP) (fun a w => (IsW w0 w) ∧ Fr 83 [(0, vt), (1, vr), (6, .int .i64 (seedsE ts))] a) No 9 (fun a w => ∃ v4 : Value, Fr 83 [(4, v4), (5, .int .i64 (playE ts rs))] a ∧ w.ownsRow w0.heap.size 9 1 v4 (playL ts rs).length (cellsOf encSt (playL ts rs)) ∧ Below w0.heap.size w0 w) := by
  refine T3.leaf ?_
  rintro Q JS JX JT K hS hK hX hE hT hR a w ⟨hW, ⟨fr, rfl, q0, q1, _⟩⟩
  obtain rfl : w = w0 := hW
  have HP := Lib.hid (seeds_prog w vt ts h.s)
  generalize seedsE ts = e0 at *
  obtain ⟨p1, c1, hv1⟩ := h.s.t.shape
  subst hv1
  obtain ⟨p2, c2, hv2⟩ := h.r.shape
  subst hv2
  rw [fr_pzP, show fr 0 = _ from q0, show fr 1 = _ from q1]
  clear q0 q1
  conv => arg 2; whnf
  go_wp2_with fail
  refine HP.out.mono ?_
  rintro e w1 ⟨rfl, rfl⟩
  go_wp2_with fail
  refine Met.intro (hS _ _ ?_)
  exact ⟨rfl, Fr.of _ rfl ⟨rfl, rfl, rfl, trivial⟩⟩

set_option maxRecDepth 100000 in
set_option maxHeartbeats 1000000 in
theorem pz2 (w0 : World) (vt vr : Value) (ts : List ByteArray) (rs : List (List ByteArray)) (h : PlH w0 vt vr ts rs) : T3 Try.prog (fun a w => (IsW w0 w) ∧ Fr 83 [(0, vt), (1, vr), (6, .int .i64 (seedsE ts))] a) (sel [1, 0, 1, 0] pzP) (fun a w => ∃ q, Fr 83 ((21, .bool q) :: [(0, vt), (1, vr), (6, .int .i64 (seedsE ts))]) a ∧ ((q = (seedsE ts != 0)) ∧ IsW w0 w)) No 9 (fun a w => ∃ v4 : Value, Fr 83 [(4, v4), (5, .int .i64 (playE ts rs))] a ∧ w.ownsRow w0.heap.size 9 1 v4 (playL ts rs).length (cellsOf encSt (playL ts rs)) ∧ Below w0.heap.size w0 w) := by
  refine T3.leaf ?_
  rintro Q JS JX JT K hS hK hX hE hT hR a w ⟨hW, ⟨fr, rfl, q0, q1, q6, _⟩⟩
  generalize seedsE ts = e0 at *
  obtain ⟨p1, c1, hv1⟩ := h.s.t.shape
  subst hv1
  obtain ⟨p2, c2, hv2⟩ := h.r.shape
  subst hv2
  rw [fr_pzP, show fr 0 = _ from q0, show fr 1 = _ from q1, show fr 6 = _ from q6]
  clear q0 q1 q6
  conv => arg 2; whnf
  go_wp2_with fail
  refine Met.intro (hS _ _ ?_)
  exact ⟨_, Fr.of _ rfl ⟨rfl, rfl, rfl, rfl, trivial⟩, rfl, hW⟩

set_option maxRecDepth 100000 in
set_option maxHeartbeats 1000000 in
theorem pz3 (w0 : World) (vt vr : Value) (ts : List ByteArray) (rs : List (List ByteArray)) (h : PlH w0 vt vr ts rs) : T3 Try.prog (fun a w => (IsW w0 w) ∧ Fr 83 [(0, vt), (1, vr), (6, .int .i64 (seedsE ts))] a) (sel [1, 0, 1, 1, 2, 0] pzP) (fun a w => (IsW w0 w) ∧ Fr 83 [(4, .slice none 0 0), (5, .int .i64 (seedsE ts))] a) No 9 (fun a w => ∃ v4 : Value, Fr 83 [(4, v4), (5, .int .i64 (playE ts rs))] a ∧ w.ownsRow w0.heap.size 9 1 v4 (playL ts rs).length (cellsOf encSt (playL ts rs)) ∧ Below w0.heap.size w0 w) := by
  refine T3.leaf ?_
  rintro Q JS JX JT K hS hK hX hE hT hR a w ⟨hW, ⟨fr, rfl, q0, q1, q6, _⟩⟩
  generalize seedsE ts = e0 at *
  obtain ⟨p1, c1, hv1⟩ := h.s.t.shape
  subst hv1
  obtain ⟨p2, c2, hv2⟩ := h.r.shape
  subst hv2
  rw [fr_pzP, show fr 0 = _ from q0, show fr 1 = _ from q1, show fr 6 = _ from q6]
  clear q0 q1 q6
  conv => arg 2; whnf
  go_wp2_with fail
  refine Met.intro (hS _ _ ?_)
  exact ⟨hW, Fr.of _ rfl ⟨rfl, rfl, trivial⟩⟩

set_option maxRecDepth 100000 in
set_option maxHeartbeats 1000000 in
theorem pz4 (w0 : World) (vt vr : Value) (ts : List ByteArray) (rs : List (List ByteArray)) (h : PlH w0 vt vr ts rs) : T3 Try.prog (fun a w => (IsW w0 w) ∧ Fr 83 [(0, vt), (1, vr)] a) (sel [1, 1, 0] pzP) (fun a w => (IsW w0 w) ∧ Fr 83 [(0, vt), (1, vr), (7, .int .i64 ts.length)] a) No 9 (fun a w => ∃ v4 : Value, Fr 83 [(4, v4), (5, .int .i64 (playE ts rs))] a ∧ w.ownsRow w0.heap.size 9 1 v4 (playL ts rs).length (cellsOf encSt (playL ts rs)) ∧ Below w0.heap.size w0 w) := by
  refine T3.leaf ?_
  rintro Q JS JX JT K hS hK hX hE hT hR a w ⟨hW, ⟨fr, rfl, q0, q1, _⟩⟩
  obtain ⟨p1, c1, hv1⟩ := h.s.t.shape
  subst hv1
  obtain ⟨p2, c2, hv2⟩ := h.r.shape
  subst hv2
  rw [fr_pzP, show fr 0 = _ from q0, show fr 1 = _ from q1]
  clear q0 q1
  conv => arg 2; whnf
  go_wp2_with fail
  refine Met.intro (hS _ _ ?_)
  exact ⟨hW, Fr.of _ rfl ⟨rfl, rfl, rfl, trivial⟩⟩

set_option maxRecDepth 100000 in
set_option maxHeartbeats 1000000 in
theorem pz5 (w0 : World) (vt vr : Value) (ts : List ByteArray) (rs : List (List ByteArray)) (h : PlH w0 vt vr ts rs) (hg : SGood ts) : T3 Try.prog (fun a w => (IsW w0 w) ∧ Fr 83 [(0, vt), (1, vr), (7, .int .i64 ts.length)] a) (sel [1, 1, 1, 0, 0] pzP) (fun a w => ∃ q, Fr 83 ((29, .bool q) :: [(0, vt), (1, vr), (7, .int .i64 ts.length)]) a ∧ ((q = ((rs.length : Int) != roundsF ts.length)) ∧ IsW w0 w)) No 9 (fun a w => ∃ v4 : Value, Fr 83 [(4, v4), (5, .int .i64 (playE ts rs))] a ∧ w.ownsRow w0.heap.size 9 1 v4 (playL ts rs).length (cellsOf encSt (playL ts rs)) ∧ Below w0.heap.size w0 w) := by
  refine T3.leaf ?_
  rintro Q JS JX JT K hS hK hX hE hT hR a w ⟨hW, ⟨fr, rfl, q0, q1, q7, _⟩⟩
  have n20 := hg.n20
  have HP := Lib.hid (fun w => rounds_prog ts.length w (by omega))
  obtain ⟨p1, c1, hv1⟩ := h.s.t.shape
  subst hv1
  obtain ⟨p2, c2, hv2⟩ := h.r.shape
  subst hv2
  generalize roundsF ts.length = rr at *
  generalize hq : ((rs.length : Int) != rr) = q at *
  rw [fr_pzP, show fr 0 = _ from q0, show fr 1 = _ from q1, show fr 7 = _ from q7]
  clear q0 q1 q7
  conv => arg 2; whnf
  go_wp2_with fail
  refine (HP.out _).mono ?_
  rintro e w1 ⟨rfl, rfl⟩
  go_wp2_with fail
  refine Met.intro (hS _ _ ?_)
  exact ⟨_, Fr.of _ rfl ⟨rfl, rfl, rfl, rfl, trivial⟩, rfl, hW⟩

set_option maxRecDepth 100000 in
set_option maxHeartbeats 1000000 in
theorem pz6 (w0 : World) (vt vr : Value) (ts : List ByteArray) (rs : List (List ByteArray)) (h : PlH w0 vt vr ts rs) (hg : SGood ts) : T3 Try.prog (fun a w => (IsW w0 w) ∧ Fr 83 [(0, vt), (1, vr), (7, .int .i64 ts.length)] a) (sel [1, 1, 1, 0, 1, 2, 0] pzP) (fun a w => (IsW w0 w) ∧ Fr 83 [(4, .slice none 0 0), (5, .int .i64 3)] a) No 9 (fun a w => ∃ v4 : Value, Fr 83 [(4, v4), (5, .int .i64 (playE ts rs))] a ∧ w.ownsRow w0.heap.size 9 1 v4 (playL ts rs).length (cellsOf encSt (playL ts rs)) ∧ Below w0.heap.size w0 w) := by
  refine T3.leaf ?_
  rintro Q JS JX JT K hS hK hX hE hT hR a w ⟨hW, ⟨fr, rfl, q0, q1, q7, _⟩⟩
  obtain ⟨p1, c1, hv1⟩ := h.s.t.shape
  subst hv1
  obtain ⟨p2, c2, hv2⟩ := h.r.shape
  subst hv2
  rw [fr_pzP, show fr 0 = _ from q0, show fr 1 = _ from q1, show fr 7 = _ from q7]
  clear q0 q1 q7
  conv => arg 2; whnf
  go_wp2_with fail
  refine Met.intro (hS _ _ ?_)
  exact ⟨hW, Fr.of _ rfl ⟨rfl, rfl, trivial⟩⟩

set_option maxRecDepth 100000 in
set_option maxHeartbeats 1000000 in
theorem pz7 (w0 : World) (vt vr : Value) (ts : List ByteArray) (rs : List (List ByteArray)) (h : PlH w0 vt vr ts rs) (g : PlG ts rs) : T3 Try.prog (fun a w => (IsW w0 w) ∧ Fr 83 [(0, vt), (1, vr), (7, .int .i64 ts.length)] a) (sel [1, 1, 1, 1, 0] pzP) (fun a w => ∃ (vg : Value), (PlW w0 vg (.slice none 0 0) ts.length (leftK ts rs (0 : Int).toNat) (ordK ts rs (0 : Int).toNat) (2 ^ (rN ts - (0 : Int).toNat - 1)) w) ∧ Fr 83 [(0, vt), (1, vr), (7, .int .i64 ts.length), (8, vg)] a) No 9 (fun a w => ∃ v4 : Value, Fr 83 [(4, v4), (5, .int .i64 (playE ts rs))] a ∧ w.ownsRow w0.heap.size 9 1 v4 (playL ts rs).length (cellsOf encSt (playL ts rs)) ∧ Below w0.heap.size w0 w) := by
  refine T3.leaf ?_
  rintro Q JS JX JT K hS hK hX hE hT hR a w ⟨hW, ⟨fr, rfl, q0, q1, q7, _⟩⟩
  obtain rfl : w = w0 := hW
  have hg := s_good g.e
  have n20 := hg.n20
  have ok := (lk_zero hg rs).ok hg (rN_b hg).1
  have hlen := ok.len
  have h16 := ok.n16
  have hbl : (bracketL (ts.length : Int)).length = 2 * 2 ^ (rN ts - 0 - 1) := by
    rw [← hlen]
    show _ = (left0 ts.length).length
    unfold left0
    rw [List.length_map]
  have HP := Lib.hid (fun w => places_any ts.length w (by omega))
  have HUL := Lib.hid (up_left0 ts.length)
  have HLN := Lib.hid hbl
  have h16b : 2 ^ (rN ts - 0 - 1) ≤ 16 := h16
  clear hlen hbl ok
  obtain ⟨p1, c1, hv1⟩ := h.s.t.shape
  subst hv1
  obtain ⟨p2, c2, hv2⟩ := h.r.shape
  subst hv2
  generalize hN : 2 ^ (rN ts - 0 - 1) = N at *
  rw [fr_pzP, show fr 0 = _ from q0, show fr 1 = _ from q1, show fr 7 = _ from q7]
  clear q0 q1 q7
  conv => arg 2; whnf
  go_wp2_with fail
  refine (HP.out _).mono ?_
  rintro e w1 ⟨gb, cap, rfl, ho, hb⟩
  have hin := (Row.of_owns ho).ints
  have hsz := owns_sizes ho
  have HO := Lib.hid ho
  have HB := Lib.hid hb
  have hci := fun i h0 h1 => ints_of_owns ho i h0 h1
  have hp := paired_n ts.length (bracketL (ts.length : Int)) gb 0 cap _ N w1 HLN.out (by omega) rfl hsz.2.2.1 hsz.2.2.2 hsz.2.1 (fun i h0 h1 => by rw [Nat.zero_add]; exact hci i h0 (by omega))
  have HPP := Lib.hid hp
  clear hp hci hin hb ho
  go_wp2_with fail
  refine HPP.out.mono ?_
  rintro e w2 ⟨vg, rfl, hgo, hb2⟩
  have HG := Lib.hid (hgo)
  have HB2 := Lib.hid (HB.out.trans (hb2.mono HB.out.size))
  obtain ⟨p8, c8, hv8⟩ := (Row.of_owns hgo).shape
  subst hv8
  clear hgo hb2
  go_wp2_with fail
  refine Met.intro (hS _ _ ?_)
  refine ⟨_, ⟨HB2.out, ?_, World.ownsRow_nil _ _ _ _⟩, Fr.of _ rfl ⟨rfl, rfl, rfl, rfl, trivial⟩⟩
  show Row _ 0 2 _ (2 ^ (rN ts - 0 - 1)) (cells2 (gms ts.length (upL (left0 ts.length)) (2 ^ (rN ts - 0 - 1) : Nat)))
  rw [HUL.out, hN]
  exact (Row.of_owns HG.out).mono (Nat.zero_le _)

set_option maxRecDepth 100000 in
set_option maxHeartbeats 1000000 in
theorem pz8 (w0 : World) (vt vr : Value) (ts : List ByteArray) (rs : List (List ByteArray)) (h : PlH w0 vt vr ts rs) (g : PlG ts rs) (vg : Value) : T3 Try.prog (fun a w => (PlW w0 vg (.slice none 0 0) ts.length (leftK ts rs (0 : Int).toNat) (ordK ts rs (0 : Int).toNat) (2 ^ (rN ts - (0 : Int).toNat - 1)) w) ∧ Fr 83 [(0, vt), (1, vr), (7, .int .i64 ts.length), (8, vg)] a) (sel [1, 1, 1, 1, 1, 0] pzP) (fun a w => (PlW w0 vg (.slice none 0 0) ts.length (leftK ts rs (0 : Int).toNat) (ordK ts rs (0 : Int).toNat) (2 ^ (rN ts - (0 : Int).toNat - 1)) w) ∧ Fr 83 [(0, vt), (1, vr), (7, .int .i64 ts.length), (8, vg), (9, .slice none 0 0)] a) No 9 (fun a w => ∃ v4 : Value, Fr 83 [(4, v4), (5, .int .i64 (playE ts rs))] a ∧ w.ownsRow w0.heap.size 9 1 v4 (playL ts rs).length (cellsOf encSt (playL ts rs)) ∧ Below w0.heap.size w0 w) := by
  refine T3.leaf ?_
  rintro Q JS JX JT K hS hK hX hE hT hR a w ⟨hW, ⟨fr, rfl, q0, q1, q7, q8, _⟩⟩
  obtain ⟨p8, c8, hv8⟩ := hW.gr.shape
  subst hv8
  obtain ⟨p1, c1, hv1⟩ := h.s.t.shape
  subst hv1
  obtain ⟨p2, c2, hv2⟩ := h.r.shape
  subst hv2
  rw [fr_pzP, show fr 0 = _ from q0, show fr 1 = _ from q1, show fr 7 = _ from q7, show fr 8 = _ from q8]
  clear q0 q1 q7 q8
  conv => arg 2; whnf
  go_wp2_with fail
  refine Met.intro (hS _ _ ?_)
  exact ⟨hW, Fr.of _ rfl ⟨rfl, rfl, rfl, rfl, rfl, trivial⟩⟩

set_option maxRecDepth 100000 in
set_option maxHeartbeats 1000000 in
theorem pz9 (w0 : World) (vt vr : Value) (ts : List ByteArray) (rs : List (List ByteArray)) (h : PlH w0 vt vr ts rs) (g : PlG ts rs) (vg : Value) : T3 Try.prog (fun a w => (PlW w0 vg (.slice none 0 0) ts.length (leftK ts rs (0 : Int).toNat) (ordK ts rs (0 : Int).toNat) (2 ^ (rN ts - (0 : Int).toNat - 1)) w) ∧ Fr 83 [(0, vt), (1, vr), (7, .int .i64 ts.length), (8, vg), (9, .slice none 0 0)] a) (sel [1, 1, 1, 1, 1, 1, 0, 0] pzP) (fun a w => ∃ (vg vO : Value), (PlW w0 vg vO ts.length (leftK ts rs (0 : Int).toNat) (ordK ts rs (0 : Int).toNat) (2 ^ (rN ts - (0 : Int).toNat - 1)) w) ∧ Fr 83 [(0, vt), (1, vr), (7, .int .i64 ts.length), (8, vg), (9, vO), (34, vr), (35, .int .i64 rs.length), (36, .int .i64 0)] a) No 9 (fun a w => ∃ v4 : Value, Fr 83 [(4, v4), (5, .int .i64 (playE ts rs))] a ∧ w.ownsRow w0.heap.size 9 1 v4 (playL ts rs).length (cellsOf encSt (playL ts rs)) ∧ Below w0.heap.size w0 w) := by
  refine T3.leaf ?_
  rintro Q JS JX JT K hS hK hX hE hT hR a w ⟨hW, ⟨fr, rfl, q0, q1, q7, q8, q9, _⟩⟩
  obtain ⟨p8, c8, hv8⟩ := hW.gr.shape
  subst hv8
  obtain ⟨p1, c1, hv1⟩ := h.s.t.shape
  subst hv1
  obtain ⟨p2, c2, hv2⟩ := h.r.shape
  subst hv2
  rw [fr_pzP, show fr 0 = _ from q0, show fr 1 = _ from q1, show fr 7 = _ from q7, show fr 8 = _ from q8, show fr 9 = _ from q9]
  clear q0 q1 q7 q8 q9
  conv => arg 2; whnf
  go_wp2_with fail
  refine Met.intro (hS _ _ ?_)
  exact ⟨_, _, hW, Fr.of _ rfl ⟨rfl, rfl, rfl, rfl, rfl, rfl, rfl, rfl, trivial⟩⟩

set_option maxRecDepth 100000 in
set_option maxHeartbeats 1000000 in
theorem pz10 (w0 : World) (vt vr : Value) (ts : List ByteArray) (rs : List (List ByteArray)) (h : PlH w0 vt vr ts rs) (g : PlG ts rs) (k : Int) (hk : 0 ≤ k ∧ k < rs.length) (hn : NoErr (rndK ts rs) k) (vg vO : Value) : T3 Try.prog (fun a w => (PlW w0 vg vO ts.length (leftK ts rs (k : Int).toNat) (ordK ts rs (k : Int).toNat) (2 ^ (rN ts - (k : Int).toNat - 1)) w) ∧ Fr 83 [(0, vt), (1, vr), (7, .int .i64 ts.length), (8, vg), (9, vO), (34, vr), (35, .int .i64 rs.length), (36, .int .i64 k)] a) (sel [1, 1, 1, 1, 1, 1, 0, 1, 4, 4, 0] pzP) (fun a w => ∃ q, Fr 83 ((37, .bool q) :: [(0, vt), (1, vr), (7, .int .i64 ts.length), (8, vg), (9, vO), (34, vr), (35, .int .i64 rs.length), (36, .int .i64 k)]) a ∧ ((q = true) ∧ PlW w0 vg vO ts.length (leftK ts rs (k : Int).toNat) (ordK ts rs (k : Int).toNat) (2 ^ (rN ts - (k : Int).toNat - 1)) w)) No 9 (fun a w => ∃ v4 : Value, Fr 83 [(4, v4), (5, .int .i64 (playE ts rs))] a ∧ w.ownsRow w0.heap.size 9 1 v4 (playL ts rs).length (cellsOf encSt (playL ts rs)) ∧ Below w0.heap.size w0 w) := by
  refine T3.leaf ?_
  rintro Q JS JX JT K hS hK hX hE hT hR a w ⟨hW, ⟨fr, rfl, q0, q1, q7, q8, q9, q34, q35, q36, _⟩⟩
  obtain ⟨p8, c8, hv8⟩ := hW.gr.shape
  subst hv8
  obtain ⟨p9, c9, hv9⟩ := (Row.of_owns hW.od).shape
  subst hv9
  have HW := Lib.hid hW
  clear hW
  obtain ⟨p1, c1, hv1⟩ := h.s.t.shape
  subst hv1
  obtain ⟨p2, c2, hv2⟩ := h.r.shape
  subst hv2
  have hk1 := hk.2
  generalize ordK ts rs k.toNat = OO at *
  rw [fr_pzP, show fr 0 = _ from q0, show fr 1 = _ from q1, show fr 7 = _ from q7, show fr 8 = _ from q8, show fr 9 = _ from q9, show fr 34 = _ from q34, show fr 35 = _ from q35, show fr 36 = _ from q36]
  clear q0 q1 q7 q8 q9 q34 q35 q36
  conv => arg 2; whnf
  go_wp2_with fail
  refine Met.intro (hS _ _ ?_)
  exact ⟨_, Fr.of _ rfl ⟨rfl, rfl, rfl, rfl, rfl, rfl, rfl, rfl, rfl, trivial⟩, rfl, HW.out⟩

set_option maxRecDepth 100000 in
set_option maxHeartbeats 1000000 in
theorem pz11 (w0 : World) (vt vr : Value) (ts : List ByteArray) (rs : List (List ByteArray)) (h : PlH w0 vt vr ts rs) (g : PlG ts rs) (k : Int) (hk : 0 ≤ k ∧ k < rs.length) (hn : NoErr (rndK ts rs) k) (vg vO : Value) : T3 Try.prog (fun a w => (PlW w0 vg vO ts.length (leftK ts rs (k : Int).toNat) (ordK ts rs (k : Int).toNat) (2 ^ (rN ts - (k : Int).toNat - 1)) w) ∧ Fr 83 [(0, vt), (1, vr), (7, .int .i64 ts.length), (8, vg), (9, vO), (34, vr), (35, .int .i64 rs.length), (36, .int .i64 k)] a) (sel [1, 1, 1, 1, 1, 1, 0, 1, 4, 4, 1, 1, 0, 4, 0] pzP) (fun a w => ∃ (v11 : Value), (PlW w0 vg vO ts.length (leftK ts rs (k : Int).toNat) (ordK ts rs (k : Int).toNat) (2 ^ (rN ts - (k : Int).toNat - 1)) w ∧ Row w 0 1 v11 (wsAt rs k.toNat).length (cellsOf encSt (wsAt rs k.toNat))) ∧ Fr 83 [(0, vt), (1, vr), (7, .int .i64 ts.length), (8, vg), (9, vO), (10, .int .i64 k), (11, v11), (34, vr), (35, .int .i64 rs.length), (36, .int .i64 k)] a) No 9 (fun a w => ∃ v4 : Value, Fr 83 [(4, v4), (5, .int .i64 (playE ts rs))] a ∧ w.ownsRow w0.heap.size 9 1 v4 (playL ts rs).length (cellsOf encSt (playL ts rs)) ∧ Below w0.heap.size w0 w) := by
  refine T3.leaf ?_
  rintro Q JS JX JT K hS hK hX hE hT hR a w ⟨hW, ⟨fr, rfl, q0, q1, q7, q8, q9, q34, q35, q36, _⟩⟩
  have HW := Lib.hid hW
  obtain ⟨vs, hr1, hr2⟩ := (h.r.below hW.bel).r
  have hlv : vs.length = rs.length := by have := hr1.1; simpa using this
  obtain ⟨v11, hv11⟩ : ∃ v, vs[k.toNat]? = some v := ⟨vs[k.toNat]'(by omega), List.getElem?_eq_getElem (by omega)⟩
  have HR := Lib.hid (hr2 _ _ hv11)
  have hk0 := hk.1
  have hk1 := hk.2
  have hrn := h.r.n
  obtain ⟨p8, c8, hv8⟩ := hW.gr.shape
  subst hv8
  obtain ⟨p9, c9, hv9⟩ := (Row.of_owns hW.od).shape
  subst hv9
  obtain ⟨p1, c1, hv1⟩ := h.s.t.shape
  subst hv1
  rcases hr1.2 with ⟨rfl, h0⟩ | ⟨bz, off, cap, rfl, _, hbz, hnc, hcm, hcell⟩
  · omega
  have t0 := hcell _ _ hv11
  clear hcell hr2 hlv hW
  generalize ordK ts rs k.toNat = OO at *
  rw [fr_pzP, show fr 0 = _ from q0, show fr 1 = _ from q1, show fr 7 = _ from q7, show fr 8 = _ from q8, show fr 9 = _ from q9, show fr 34 = _ from q34, show fr 35 = _ from q35, show fr 36 = _ from q36]
  clear q0 q1 q7 q8 q9 q34 q35 q36
  conv => arg 2; whnf
  go_wp2_with fail
  refine Met.intro (hS _ _ ?_)
  exact ⟨v11, ⟨HW.out, HR.out⟩, Fr.of _ rfl ⟨rfl, rfl, rfl, rfl, rfl, rfl, rfl, rfl, rfl, rfl, trivial⟩⟩

set_option maxRecDepth 100000 in
set_option maxHeartbeats 1000000 in
theorem pz12 (w0 : World) (vt vr : Value) (ts : List ByteArray) (rs : List (List ByteArray)) (h : PlH w0 vt vr ts rs) (g : PlG ts rs) (k : Int) (hk : 0 ≤ k ∧ k < rs.length) (hn : NoErr (rndK ts rs) k) (vg vO : Value) (v11 : Value) : T3 Try.prog (fun a w => (PlW w0 vg vO ts.length (leftK ts rs (k : Int).toNat) (ordK ts rs (k : Int).toNat) (2 ^ (rN ts - (k : Int).toNat - 1)) w ∧ Row w 0 1 v11 (wsAt rs k.toNat).length (cellsOf encSt (wsAt rs k.toNat))) ∧ Fr 83 [(0, vt), (1, vr), (7, .int .i64 ts.length), (8, vg), (9, vO), (10, .int .i64 k), (11, v11), (34, vr), (35, .int .i64 rs.length), (36, .int .i64 k)] a) (sel [1, 1, 1, 1, 1, 1, 0, 1, 4, 4, 1, 1, 0, 4, 1, 0] pzP) (fun a w => ∃ (vW vL : Value), (P12 w0 vW vL vO (pyW ts (leftK ts rs k.toNat) (wsAt rs k.toNat)) (pyL ts (leftK ts rs k.toNat) (wsAt rs k.toNat)) (ordK ts rs k.toNat) w) ∧ Fr 83 [(0, vt), (1, vr), (7, .int .i64 ts.length), (9, vO), (10, .int .i64 k), (12, vW), (13, vL), (14, .int .i64 (rndE ts (leftK ts rs k.toNat) (wsAt rs k.toNat))), (34, vr), (35, .int .i64 rs.length), (36, .int .i64 k)] a) No 9 (fun a w => ∃ v4 : Value, Fr 83 [(4, v4), (5, .int .i64 (playE ts rs))] a ∧ w.ownsRow w0.heap.size 9 1 v4 (playL ts rs).length (cellsOf encSt (playL ts rs)) ∧ Below w0.heap.size w0 w) := by
  refine T3.leaf ?_
  rintro Q JS JX JT K hS hK hX hE hT hR a w ⟨hW, ⟨fr, rfl, q0, q1, q7, q8, q9, q10, q11, q34, q35, q36, _⟩⟩
  have hg := s_good g.e
  have hlo := g.lo
  have lk := lk_all hg k.toNat (by omega) (by rw [Int.toNat_of_nonneg hk.1]; exact hn)
  have ok := lk.ok hg (by omega)
  have hbw := hW.1.bel
  have HP := Lib.hid (played_prog w vt vg v11 ts (leftK ts rs k.toNat) (wsAt rs k.toNat) _ ⟨h.s.below hbw, hg, ok, hW.1.gr, hW.2, h.r.m _⟩)
  have HX := Lib.hid (fun w' vW vL W L (p : Pr2 w w' 3 vW vL W L) => P12.of hW.1 p)
  obtain ⟨p8, c8, hv8⟩ := hW.1.gr.shape
  subst hv8
  obtain ⟨p9, c9, hv9⟩ := (Row.of_owns hW.1.od).shape
  subst hv9
  obtain ⟨p1, c1, hv1⟩ := h.s.t.shape
  subst hv1
  obtain ⟨p2, c2, hv2⟩ := h.r.shape
  subst hv2
  obtain ⟨p11, c11, hv11⟩ := hW.2.shape
  subst hv11
  clear hW ok lk hbw
  generalize rndE ts (leftK ts rs k.toNat) (wsAt rs k.toNat) = rk at *
  generalize pyW ts (leftK ts rs k.toNat) (wsAt rs k.toNat) = WW at *
  generalize pyL ts (leftK ts rs k.toNat) (wsAt rs k.toNat) = LL at *
  generalize ordK ts rs k.toNat = OO at *
  generalize wsAt rs k.toNat = ws at *
  rw [fr_pzP, show fr 0 = _ from q0, show fr 1 = _ from q1, show fr 7 = _ from q7, show fr 8 = _ from q8, show fr 9 = _ from q9, show fr 10 = _ from q10, show fr 11 = _ from q11, show fr 34 = _ from q34, show fr 35 = _ from q35, show fr 36 = _ from q36]
  clear q0 q1 q7 q8 q9 q10 q11 q34 q35 q36
  conv => arg 2; whnf
  go_wp2_with fail
  refine HP.out.mono ?_
  rintro e w1 ⟨vW, vL, rfl, hp⟩
  have HR := Lib.hid (HX.out _ _ _ _ _ hp)
  obtain ⟨pw, cw, hvw⟩ := (Row.of_owns hp.rw).shape
  subst hvw
  obtain ⟨pl, cl, hvl⟩ := (Row.of_owns hp.rl).shape
  subst hvl
  clear hp HX
  go_wp2_with fail
  refine Met.intro (hS _ _ ?_)
  exact ⟨_, _, HR.out, Fr.of _ rfl ⟨rfl, rfl, rfl, rfl, rfl, rfl, rfl, rfl, rfl, rfl, rfl, trivial⟩⟩

set_option maxRecDepth 100000 in
set_option maxHeartbeats 1000000 in
theorem pz13 (w0 : World) (vt vr : Value) (ts : List ByteArray) (rs : List (List ByteArray)) (h : PlH w0 vt vr ts rs) (g : PlG ts rs) (k : Int) (hk : 0 ≤ k ∧ k < rs.length) (hn : NoErr (rndK ts rs) k) (vO vW vL : Value) : T3 Try.prog (fun a w => (P12 w0 vW vL vO (pyW ts (leftK ts rs k.toNat) (wsAt rs k.toNat)) (pyL ts (leftK ts rs k.toNat) (wsAt rs k.toNat)) (ordK ts rs k.toNat) w) ∧ Fr 83 [(0, vt), (1, vr), (7, .int .i64 ts.length), (9, vO), (10, .int .i64 k), (12, vW), (13, vL), (14, .int .i64 (rndE ts (leftK ts rs k.toNat) (wsAt rs k.toNat))), (34, vr), (35, .int .i64 rs.length), (36, .int .i64 k)] a) (sel [1, 1, 1, 1, 1, 1, 0, 1, 4, 4, 1, 1, 0, 4, 1, 1, 0, 0] pzP) (fun a w => ∃ q, Fr 83 ((50, .bool q) :: [(0, vt), (1, vr), (7, .int .i64 ts.length), (9, vO), (10, .int .i64 k), (12, vW), (13, vL), (14, .int .i64 (rndE ts (leftK ts rs k.toNat) (wsAt rs k.toNat))), (34, vr), (35, .int .i64 rs.length), (36, .int .i64 k)]) a ∧ ((q = (rndE ts (leftK ts rs k.toNat) (wsAt rs k.toNat) != 0)) ∧ P12 w0 vW vL vO (pyW ts (leftK ts rs k.toNat) (wsAt rs k.toNat)) (pyL ts (leftK ts rs k.toNat) (wsAt rs k.toNat)) (ordK ts rs k.toNat) w)) No 9 (fun a w => ∃ v4 : Value, Fr 83 [(4, v4), (5, .int .i64 (playE ts rs))] a ∧ w.ownsRow w0.heap.size 9 1 v4 (playL ts rs).length (cellsOf encSt (playL ts rs)) ∧ Below w0.heap.size w0 w) := by
  refine T3.leaf ?_
  rintro Q JS JX JT K hS hK hX hE hT hR a w ⟨hW, ⟨fr, rfl, q0, q1, q7, q9, q10, q12, q13, q14, q34, q35, q36, _⟩⟩
  have HW := Lib.hid hW
  obtain ⟨p9, c9, hv9⟩ := (Row.of_owns hW.od).shape
  subst hv9
  obtain ⟨pw, cw, hvw⟩ := (Row.of_owns hW.rw).shape
  subst hvw
  obtain ⟨pl, cl, hvl⟩ := (Row.of_owns hW.rl).shape
  subst hvl
  obtain ⟨p1, c1, hv1⟩ := h.s.t.shape
  subst hv1
  obtain ⟨p2, c2, hv2⟩ := h.r.shape
  subst hv2
  generalize rndE ts (leftK ts rs k.toNat) (wsAt rs k.toNat) = rk at *
  generalize pyW ts (leftK ts rs k.toNat) (wsAt rs k.toNat) = WW at *
  generalize pyL ts (leftK ts rs k.toNat) (wsAt rs k.toNat) = LL at *
  generalize ordK ts rs k.toNat = OO at *
  clear hW
  rw [fr_pzP, show fr 0 = _ from q0, show fr 1 = _ from q1, show fr 7 = _ from q7, show fr 9 = _ from q9, show fr 10 = _ from q10, show fr 12 = _ from q12, show fr 13 = _ from q13, show fr 14 = _ from q14, show fr 34 = _ from q34, show fr 35 = _ from q35, show fr 36 = _ from q36]
  clear q0 q1 q7 q9 q10 q12 q13 q14 q34 q35 q36
  conv => arg 2; whnf
  go_wp2_with fail
  refine Met.intro (hS _ _ ?_)
  exact ⟨_, Fr.of _ rfl ⟨rfl, rfl, rfl, rfl, rfl, rfl, rfl, rfl, rfl, rfl, rfl, rfl, trivial⟩, rfl, HW.out⟩

set_option maxRecDepth 100000 in
set_option maxHeartbeats 1000000 in
theorem pz14 (w0 : World) (vt vr : Value) (ts : List ByteArray) (rs : List (List ByteArray)) (h : PlH w0 vt vr ts rs) (g : PlG ts rs) (k : Int) (hk : 0 ≤ k ∧ k < rs.length) (hn : NoErr (rndK ts rs) k) (vO vW vL : Value) : T3 Try.prog (fun a w => (P12 w0 vW vL vO (pyW ts (leftK ts rs k.toNat) (wsAt rs k.toNat)) (pyL ts (leftK ts rs k.toNat) (wsAt rs k.toNat)) (ordK ts rs k.toNat) w) ∧ Fr 83 [(0, vt), (1, vr), (7, .int .i64 ts.length), (9, vO), (10, .int .i64 k), (12, vW), (13, vL), (14, .int .i64 (rndE ts (leftK ts rs k.toNat) (wsAt rs k.toNat))), (34, vr), (35, .int .i64 rs.length), (36, .int .i64 k)] a) (sel [1, 1, 1, 1, 1, 1, 0, 1, 4, 4, 1, 1, 0, 4, 1, 1, 0, 1, 2, 0] pzP) (fun a w => (P12 w0 vW vL vO (pyW ts (leftK ts rs k.toNat) (wsAt rs k.toNat)) (pyL ts (leftK ts rs k.toNat) (wsAt rs k.toNat)) (ordK ts rs k.toNat) w) ∧ Fr 83 [(4, .slice none 0 0), (5, .int .i64 (rndE ts (leftK ts rs k.toNat) (wsAt rs k.toNat)))] a) No 9 (fun a w => ∃ v4 : Value, Fr 83 [(4, v4), (5, .int .i64 (playE ts rs))] a ∧ w.ownsRow w0.heap.size 9 1 v4 (playL ts rs).length (cellsOf encSt (playL ts rs)) ∧ Below w0.heap.size w0 w) := by
  refine T3.leaf ?_
  rintro Q JS JX JT K hS hK hX hE hT hR a w ⟨hW, ⟨fr, rfl, q0, q1, q7, q9, q10, q12, q13, q14, q34, q35, q36, _⟩⟩
  have HW := Lib.hid hW
  obtain ⟨p9, c9, hv9⟩ := (Row.of_owns hW.od).shape
  subst hv9
  obtain ⟨pw, cw, hvw⟩ := (Row.of_owns hW.rw).shape
  subst hvw
  obtain ⟨pl, cl, hvl⟩ := (Row.of_owns hW.rl).shape
  subst hvl
  obtain ⟨p1, c1, hv1⟩ := h.s.t.shape
  subst hv1
  obtain ⟨p2, c2, hv2⟩ := h.r.shape
  subst hv2
  generalize rndE ts (leftK ts rs k.toNat) (wsAt rs k.toNat) = rk at *
  generalize pyW ts (leftK ts rs k.toNat) (wsAt rs k.toNat) = WW at *
  generalize pyL ts (leftK ts rs k.toNat) (wsAt rs k.toNat) = LL at *
  generalize ordK ts rs k.toNat = OO at *
  clear hW
  rw [fr_pzP, show fr 0 = _ from q0, show fr 1 = _ from q1, show fr 7 = _ from q7, show fr 9 = _ from q9, show fr 10 = _ from q10, show fr 12 = _ from q12, show fr 13 = _ from q13, show fr 14 = _ from q14, show fr 34 = _ from q34, show fr 35 = _ from q35, show fr 36 = _ from q36]
  clear q0 q1 q7 q9 q10 q12 q13 q14 q34 q35 q36
  conv => arg 2; whnf
  go_wp2_with fail
  refine Met.intro (hS _ _ ?_)
  exact ⟨HW.out, Fr.of _ rfl ⟨rfl, rfl, trivial⟩⟩

theorem py_next {ts : List ByteArray} {rs : List (List ByteArray)} {k : Int} (h0 : 0 ≤ k) (hz : rndE ts (leftK ts rs k.toNat) (wsAt rs k.toNat) = 0) :
    pyW ts (leftK ts rs k.toNat) (wsAt rs k.toNat) = upL (leftK ts rs (k + 1).toNat) ∧ pyL ts (leftK ts rs k.toNat) (wsAt rs k.toNat) ++ ordK ts rs k.toNat = ordK ts rs (k + 1).toNat := by
  unfold pyW pyL
  rw [if_pos hz, if_pos hz, show (k + 1).toNat = k.toNat + 1 by omega]
  exact ⟨rfl, rfl⟩
set_option maxRecDepth 100000 in
set_option maxHeartbeats 1000000 in
theorem pz15 (w0 : World) (vt vr : Value) (ts : List ByteArray) (rs : List (List ByteArray)) (h : PlH w0 vt vr ts rs) (g : PlG ts rs) (k : Int) (hk : 0 ≤ k ∧ k < rs.length) (hn : NoErr (rndK ts rs) k) (vO vW vL : Value) (hz : rndE ts (leftK ts rs k.toNat) (wsAt rs k.toNat) = 0) : T3 Try.prog (fun a w => (P12 w0 vW vL vO (pyW ts (leftK ts rs k.toNat) (wsAt rs k.toNat)) (pyL ts (leftK ts rs k.toNat) (wsAt rs k.toNat)) (ordK ts rs k.toNat) w) ∧ Fr 83 [(0, vt), (1, vr), (7, .int .i64 ts.length), (9, vO), (10, .int .i64 k), (12, vW), (13, vL), (14, .int .i64 (rndE ts (leftK ts rs k.toNat) (wsAt rs k.toNat))), (34, vr), (35, .int .i64 rs.length), (36, .int .i64 k)] a) (sel [1, 1, 1, 1, 1, 1, 0, 1, 4, 4, 1, 1, 0, 4, 1, 1, 1, 0] pzP) (fun a w => ∃ (vO' : Value), (P15 w0 vW vO' (upL (leftK ts rs (k + 1).toNat)) (ordK ts rs (k + 1).toNat) w) ∧ Fr 83 [(0, vt), (1, vr), (7, .int .i64 ts.length), (9, vO'), (10, .int .i64 k), (12, vW), (34, vr), (35, .int .i64 rs.length), (36, .int .i64 k)] a) No 9 (fun a w => ∃ v4 : Value, Fr 83 [(4, v4), (5, .int .i64 (playE ts rs))] a ∧ w.ownsRow w0.heap.size 9 1 v4 (playL ts rs).length (cellsOf encSt (playL ts rs)) ∧ Below w0.heap.size w0 w) := by
  refine T3.leaf ?_
  rintro Q JS JX JT K hS hK hX hE hT hR a w ⟨hW, ⟨fr, rfl, q0, q1, q7, q9, q10, q12, q13, q14, q34, q35, q36, _⟩⟩
  obtain ⟨e1, e2⟩ := py_next hk.1 hz
  have HE1 := Lib.hid e1
  have HE2 := Lib.hid e2
  have hg := s_good g.e
  have hlo := g.lo
  have h5 := (rN_b hg).2.1
  have hol := (ordK_in hg k.toNat (by omega) (by rw [Int.toNat_of_nonneg hk.1]; exact hn)).2
  have hlk := lk_all hg k.toNat (by omega) (by rw [Int.toNat_of_nonneg hk.1]; exact hn)
  have hws := (lk_step hg hlk (by omega) hz).2
  have hwm := h.r.m k.toNat
  have hll : (pyL ts (leftK ts rs k.toNat) (wsAt rs k.toNat)).length ≤ 1000 := by
    unfold pyL
    rw [if_pos hz, sortL_length, upL_length]
    exact Nat.le_trans (List.length_filter_le _ _) (by simp [losL]; omega)
  have hEL := el_intP
  have hbs := hW.bel.size
  have HA := Lib.hid (fun w' v' ho g => P12.app (w' := w') (v' := v') hW ho g)
  have HRL := hW.rl
  have HOD := hW.od
  have hone := ints_one (ordK ts rs k.toNat)
  clear e1 e2 hz hlk hws
  have HW := Lib.hid hW
  obtain ⟨p9, c9, hv9⟩ := (Row.of_owns hW.od).shape
  subst hv9
  obtain ⟨pw, cw, hvw⟩ := (Row.of_owns hW.rw).shape
  subst hvw
  obtain ⟨pl, cl, hvl⟩ := (Row.of_owns hW.rl).shape
  subst hvl
  obtain ⟨p1, c1, hv1⟩ := h.s.t.shape
  subst hv1
  obtain ⟨p2, c2, hv2⟩ := h.r.shape
  subst hv2
  generalize rndE ts (leftK ts rs k.toNat) (wsAt rs k.toNat) = rk at *
  generalize pyW ts (leftK ts rs k.toNat) (wsAt rs k.toNat) = WW at *
  generalize pyL ts (leftK ts rs k.toNat) (wsAt rs k.toNat) = LL at *
  generalize ordK ts rs k.toNat = OO at *
  rw [fr_pzP, show fr 0 = _ from q0, show fr 1 = _ from q1, show fr 7 = _ from q7, show fr 9 = _ from q9, show fr 10 = _ from q10, show fr 12 = _ from q12, show fr 13 = _ from q13, show fr 14 = _ from q14, show fr 34 = _ from q34, show fr 35 = _ from q35, show fr 36 = _ from q36]
  clear q0 q1 q7 q9 q10 q12 q13 q14 q34 q35 q36
  conv => arg 2; whnf
  go_wp2_with (at_builtin; refine app_rows rfl _ _ _ rfl hEL HRL rfl HOD rfl hone (by omega) hbs ?_; intro v' w3 hown3 hgr)
  refine Met.intro (hS _ _ ?_)
  refine ⟨v', ?_, Fr.of _ rfl ⟨rfl, rfl, rfl, rfl, rfl, rfl, rfl, rfl, rfl, trivial⟩⟩
  have := HA.out w3 v' hown3 hgr
  rw [← HE1.out, ← HE2.out]
  exact this

end Go.Proofs.Ytkdimgghljklmaa
/-
  Finals: a bracket that is played, the program's Play, from end to end. Conditions: strings are no longer than Go's; at most 1000 seeds, rounds and names.
-/
set_option linter.unusedVariables false
namespace Go.Proofs.Ytkdimgghljklmaa
open Go.RowKit Go.Bw
theorem lk_in {ts : List ByteArray} (hg : SGood ts) {rs : List (List ByteArray)} {k : Nat} (l : LkI ts rs k) (hk : k < rN ts) (h : rndE ts (leftK ts rs k) (wsAt rs k) = 0) : ∀ x ∈ leftK ts rs (k + 1), 0 ≤ x ∧ x < ts.length := by
  have ok := l.ok hg hk
  obtain ⟨pn, hn⟩ := rnd_zero ok h
  intro x hx
  have hx2 : x ∈ winL ts (leftK ts rs k) (wsAt rs k) (wsAt rs k).length := hx
  unfold winL at hx2
  simp only [List.mem_map, List.mem_range] at hx2
  obtain ⟨j, hj, rfl⟩ := hx2
  have := pn.lo
  exact win_in hg ok hn (j : Int) (by omega) (by omega)
theorem playO_in {ts : List ByteArray} {rs : List (List ByteArray)} (g : PlG ts rs) (hn : NoErr (rndK ts rs) rs.length) : (∀ x ∈ playO ts rs, 1 ≤ x ∧ x ≤ ts.length) ∧ (playO ts rs).length ≤ 2000 := by
  have hg := s_good g.e
  have hlo := g.lo
  have h5 := rN_b hg
  obtain ⟨h1, h2⟩ := ordK_in hg (rs := rs) rs.length hlo.1 hn
  obtain ⟨m, hm⟩ : ∃ m, rs.length = m + 1 := ⟨rs.length - 1, by omega⟩
  have hnm : NoErr (rndK ts rs) m := fun j h0 h1 => hn j h0 (by omega)
  have l := lk_all hg (rs := rs) m (by omega) hnm
  have hz := hn (m : Int) (by omega) (by omega)
  unfold rndK at hz
  rw [Int.toNat_natCast] at hz
  have hin := lk_in hg l (by omega) hz
  have hst := lk_step hg l (by omega) hz
  rw [← hm] at hin hst
  refine ⟨fun x hx => ?_, ?_⟩
  · rcases List.mem_append.1 hx with hx | hx
    · unfold upL at hx
      obtain ⟨y, hy, rfl⟩ := List.mem_map.1 hx
      have := hin y hy
      omega
    · exact h1 x hx
  · unfold playO
    rw [List.length_append, upL_length, hst.1.len]
    have : 2 ^ (rN ts - rs.length) ≤ 2 ^ 5 := Nat.pow_le_pow_right (by decide) (by omega)
    omega
/-- The order, and the names so far. -/
structure PN (w0 : World) (ts : List ByteArray) (vO v15 : Value) (O G : List Int) (w : World) : Prop where
  bel : Below w0.heap.size w0 w
  od : w.ownsRow w0.heap.size 3 1 vO O.length (O.map (.int .i64))
  nm : w.ownsRow w0.heap.size 9 1 v15 G.length (cellsOf encSt (namesO ts G))
theorem namesO_snoc (ts : List ByteArray) (l : List Int) (x : Int) : namesO ts (l ++ [x]) = namesO ts l ++ [geta ts (x - 1)] := by simp [namesO]
theorem PN.app {w0 w w' : World} {ts : List ByteArray} {vO v15 v' : Value} {O G : List Int} (h : PN w0 ts vO v15 O G w) {x : Int} (ho : w'.ownsRow w0.heap.size 9 1 v' (G.length + 1) (cellsOf encSt (namesO ts G) ++ [.string (geta ts (x - 1))])) (g : w.grownBy w' v15.ownBlock) : PN w0 ts vO v' O (G ++ [x]) w' := by
  refine ⟨h.bel.grown g h.bel.size (fun k hk => (h.nm.lt k hk).1), own_app h.od h.nm (by decide) g, ?_⟩
  rw [namesO_snoc, cellsOf_snoc, List.length_append]
  exact ho
theorem PN.alloc {w0 w : World} {ts : List ByteArray} {vO v15 : Value} {O G : List Int} (h : PN w0 ts vO v15 O G w) (ob : Obj) : PN w0 ts vO v15 O G (w.alloc ob) :=
  ⟨h.bel.alloc h.bel.size ob, h.od.alloc ob, h.nm.alloc ob⟩
theorem takeO_succ (O : List Int) (k : Int) (h0 : 0 ≤ k) (h1 : k < O.length) : O.take (k + 1).toNat = O.take k.toNat ++ [geti O k] := by
  rw [show (k + 1).toNat = k.toNat + 1 by omega, List.take_succ_eq_append_getElem (by omega)]
  simp [geti, show k.toNat < O.length by omega]
set_option maxRecDepth 100000 in
set_option maxHeartbeats 1000000 in
theorem pz16 (w0 : World) (vt vr : Value) (ts : List ByteArray) (rs : List (List ByteArray)) (h : PlH w0 vt vr ts rs) (g : PlG ts rs) (k : Int) (hk : 0 ≤ k ∧ k < rs.length) (hn : NoErr (rndK ts rs) k) (hz : rndE ts (leftK ts rs k.toNat) (wsAt rs k.toNat) = 0) (vW vO : Value) : T3 Try.prog (fun a w => (P15 w0 vW vO (upL (leftK ts rs (k + 1).toNat)) (ordK ts rs (k + 1).toNat) w) ∧ Fr 83 [(0, vt), (1, vr), (7, .int .i64 ts.length), (9, vO), (10, .int .i64 k), (12, vW), (34, vr), (35, .int .i64 rs.length), (36, .int .i64 k)] a) (sel [1, 1, 1, 1, 1, 1, 0, 1, 4, 4, 1, 1, 0, 4, 1, 1, 1, 1, 0, 0] pzP) (fun a w => ∃ q, Fr 83 ((59, .bool q) :: [(0, vt), (1, vr), (7, .int .i64 ts.length), (9, vO), (10, .int .i64 k), (12, vW), (34, vr), (35, .int .i64 rs.length), (36, .int .i64 k)]) a ∧ ((q = (k + 1 == (rs.length : Int))) ∧ P15 w0 vW vO (upL (leftK ts rs (k + 1).toNat)) (ordK ts rs (k + 1).toNat) w)) No 9 (fun a w => ∃ v4 : Value, Fr 83 [(4, v4), (5, .int .i64 (playE ts rs))] a ∧ w.ownsRow w0.heap.size 9 1 v4 (playL ts rs).length (cellsOf encSt (playL ts rs)) ∧ Below w0.heap.size w0 w) := by
  refine T3.leaf ?_
  rintro Q JS JX JT K hS hK hX hE hT hR a w ⟨hW, ⟨fr, rfl, q0, q1, q7, q9, q10, q12, q34, q35, q36, _⟩⟩
  have hrn := h.r.n
  have hk1 := hk.2
  have hk0 := hk.1
  have HW := Lib.hid hW
  obtain ⟨p9, c9, hv9⟩ := (Row.of_owns hW.od).shape
  subst hv9
  obtain ⟨pw, cw, hvw⟩ := (Row.of_owns hW.rw).shape
  subst hvw
  obtain ⟨p1, c1, hv1⟩ := h.s.t.shape
  subst hv1
  obtain ⟨p2, c2, hv2⟩ := h.r.shape
  subst hv2
  clear hW hz
  generalize upL (leftK ts rs (k + 1).toNat) = WW at *
  generalize ordK ts rs (k + 1).toNat = OO at *
  generalize hq : (k + 1 == (rs.length : Int)) = q at *
  rw [fr_pzP, show fr 0 = _ from q0, show fr 1 = _ from q1, show fr 7 = _ from q7, show fr 9 = _ from q9, show fr 10 = _ from q10, show fr 12 = _ from q12, show fr 34 = _ from q34, show fr 35 = _ from q35, show fr 36 = _ from q36]
  clear q0 q1 q7 q9 q10 q12 q34 q35 q36
  conv => arg 2; whnf
  go_wp2_with fail
  refine Met.intro (hS _ _ ?_)
  exact ⟨_, Fr.of _ rfl ⟨rfl, rfl, rfl, rfl, rfl, rfl, rfl, rfl, rfl, rfl, trivial⟩, rfl, HW.out⟩

set_option maxRecDepth 100000 in
set_option maxHeartbeats 1000000 in
theorem pz17 (w0 : World) (vt vr : Value) (ts : List ByteArray) (rs : List (List ByteArray)) (h : PlH w0 vt vr ts rs) (g : PlG ts rs) (k : Int) (hk : 0 ≤ k ∧ k < rs.length) (hn : NoErr (rndK ts rs) k) (hz : rndE ts (leftK ts rs k.toNat) (wsAt rs k.toNat) = 0) (vW vO : Value) : T3 Try.prog (fun a w => (P15 w0 vW vO (upL (leftK ts rs (k + 1).toNat)) (ordK ts rs (k + 1).toNat) w) ∧ Fr 83 [(0, vt), (1, vr), (7, .int .i64 ts.length), (9, vO), (10, .int .i64 k), (12, vW), (34, vr), (35, .int .i64 rs.length), (36, .int .i64 k)] a) (sel [1, 1, 1, 1, 1, 1, 0, 1, 4, 4, 1, 1, 0, 4, 1, 1, 1, 1, 0, 1, 2, 0] pzP) (fun a w => ∃ (vO' : Value), (PO w0 vO' (upL (leftK ts rs (k + 1).toNat) ++ ordK ts rs (k + 1).toNat) w) ∧ Fr 83 [(0, vt), (9, vO')] a) No 9 (fun a w => ∃ v4 : Value, Fr 83 [(4, v4), (5, .int .i64 (playE ts rs))] a ∧ w.ownsRow w0.heap.size 9 1 v4 (playL ts rs).length (cellsOf encSt (playL ts rs)) ∧ Below w0.heap.size w0 w) := by
  refine T3.leaf ?_
  rintro Q JS JX JT K hS hK hX hE hT hR a w ⟨hW, ⟨fr, rfl, q0, q1, q7, q9, q10, q12, q34, q35, q36, _⟩⟩
  have hg := s_good g.e
  have hlo := g.lo
  have h5 := (rN_b hg).2.1
  have lk0 := lk_all hg k.toNat (by omega) (by rw [Int.toNat_of_nonneg hk.1]; exact hn)
  have hkk : (k + 1).toNat = k.toNat + 1 := by omega
  have hst := lk_step hg lk0 (by omega) hz
  rw [← hkk] at hst
  have hlw := hst.1.len
  have h32 : 2 ^ (rN ts - (k + 1).toNat) ≤ 2 ^ 5 := Nat.pow_le_pow_right (by decide) (by omega)
  have hwl : (upL (leftK ts rs (k + 1).toNat)).length ≤ 32 := by rw [upL_length]; omega
  have hol : (ordK ts rs (k + 1).toNat).length ≤ 1000 := by
    have hn1 : NoErr (rndK ts rs) (k + 1).toNat := fun j h0 h1 => by
      by_cases e : j < k
      · exact hn j h0 e
      · obtain rfl : j = k := by omega
        exact hz
    have := (ordK_in hg (k + 1).toNat (by omega) hn1).2
    omega
  have hEL := el_intP
  have hbs := hW.bel.size
  have HA := Lib.hid (fun w' v' ho g => P15.all (w' := w') (v' := v') hW ho g)
  have HRW := hW.rw
  have HOD := hW.od
  have hone := ints_one (ordK ts rs (k + 1).toNat)
  clear hst lk0 hz hlw h32
  have HW := Lib.hid hW
  obtain ⟨p9, c9, hv9⟩ := (Row.of_owns hW.od).shape
  subst hv9
  obtain ⟨pw, cw, hvw⟩ := (Row.of_owns hW.rw).shape
  subst hvw
  obtain ⟨p1, c1, hv1⟩ := h.s.t.shape
  subst hv1
  obtain ⟨p2, c2, hv2⟩ := h.r.shape
  subst hv2
  clear hW
  generalize upL (leftK ts rs (k + 1).toNat) = WW at *
  generalize ordK ts rs (k + 1).toNat = OO at *
  rw [fr_pzP, show fr 0 = _ from q0, show fr 1 = _ from q1, show fr 7 = _ from q7, show fr 9 = _ from q9, show fr 10 = _ from q10, show fr 12 = _ from q12, show fr 34 = _ from q34, show fr 35 = _ from q35, show fr 36 = _ from q36]
  clear q0 q1 q7 q9 q10 q12 q34 q35 q36
  conv => arg 2; whnf
  go_wp2_with (at_builtin; refine app_rows rfl _ _ _ rfl hEL HRW rfl HOD rfl hone (by omega) hbs ?_; intro v' w3 hown3 hgr)
  refine Met.intro (hS _ _ ?_)
  exact ⟨v', HA.out w3 v' hown3 hgr, Fr.of _ rfl ⟨rfl, rfl, trivial⟩⟩

set_option maxRecDepth 100000 in
set_option maxHeartbeats 1000000 in
theorem pz18 (w0 : World) (vt vr : Value) (ts : List ByteArray) (rs : List (List ByteArray)) (h : PlH w0 vt vr ts rs) (g : PlG ts rs) (k : Int) (hk : 0 ≤ k ∧ k < rs.length) (hn : NoErr (rndK ts rs) k) (hz : rndE ts (leftK ts rs k.toNat) (wsAt rs k.toNat) = 0) (vW vO : Value) (hk1 : k + 1 < rs.length) : T3 Try.prog (fun a w => (P15 w0 vW vO (upL (leftK ts rs (k + 1).toNat)) (ordK ts rs (k + 1).toNat) w) ∧ Fr 83 [(0, vt), (1, vr), (7, .int .i64 ts.length), (9, vO), (10, .int .i64 k), (12, vW), (34, vr), (35, .int .i64 rs.length), (36, .int .i64 k)] a) (sel [1, 1, 1, 1, 1, 1, 0, 1, 4, 4, 1, 1, 0, 4, 1, 1, 1, 1, 1] pzP) (fun a w => ∃ (vg : Value), (PlW w0 vg vO ts.length (leftK ts rs (k + 1 : Int).toNat) (ordK ts rs (k + 1 : Int).toNat) (2 ^ (rN ts - (k + 1 : Int).toNat - 1)) w) ∧ Fr 83 [(0, vt), (1, vr), (7, .int .i64 ts.length), (8, vg), (9, vO), (34, vr), (35, .int .i64 rs.length), (36, .int .i64 k)] a) No 9 (fun a w => ∃ v4 : Value, Fr 83 [(4, v4), (5, .int .i64 (playE ts rs))] a ∧ w.ownsRow w0.heap.size 9 1 v4 (playL ts rs).length (cellsOf encSt (playL ts rs)) ∧ Below w0.heap.size w0 w) := by
  refine T3.leaf ?_
  rintro Q JS JX JT K hS hK hX hE hT hR a w ⟨hW, ⟨fr, rfl, q0, q1, q7, q9, q10, q12, q34, q35, q36, _⟩⟩
  have hg := s_good g.e
  have hlo := g.lo
  have h5 := (rN_b hg).2.1
  have lk0 := lk_all hg k.toNat (by omega) (by rw [Int.toNat_of_nonneg hk.1]; exact hn)
  have hkk : (k + 1).toNat = k.toNat + 1 := by omega
  have hst := lk_step hg lk0 (by omega) hz
  rw [← hkk] at hst
  have ok := hst.1.ok hg (by omega)
  have hlen := ok.len
  have h16 := ok.n16
  have hul : (upL (leftK ts rs (k + 1).toNat)).length = 2 * 2 ^ (rN ts - (k + 1).toNat - 1) := by rw [upL_length, hlen]
  have hwl : (upL (leftK ts rs (k + 1).toNat)).length ≠ 0 := by
    have : 0 < 2 ^ (rN ts - (k + 1).toNat - 1) := Nat.pow_pos (by decide)
    omega
  have HB := Lib.hid hW.bel
  have HOD := Lib.hid hW.od
  obtain ⟨p9, c9, hv9⟩ := (Row.of_owns hW.od).shape
  subst hv9
  obtain ⟨gb, cap, hvw, hgb, hgl, hcc, hcm⟩ := owns_shape hW.rw (by omega)
  subst hvw
  have hci := fun i h0 h1 => ints_of_owns hW.rw i h0 h1
  have hsz := owns_sizes hW.rw
  have hp := paired_n ts.length (upL (leftK ts rs (k + 1).toNat)) gb 0 cap _ _ w hul (by omega) rfl hsz.2.2.1 hsz.2.2.2 hsz.2.1 (fun i h0 h1 => by rw [Nat.zero_add]; exact hci i h0 (by omega))
  have HPP := Lib.hid hp
  clear hp hci hst lk0 hz ok hlen hul hwl hW hkk
  obtain ⟨p1, c1, hv1⟩ := h.s.t.shape
  subst hv1
  obtain ⟨p2, c2, hv2⟩ := h.r.shape
  subst hv2
  rw [fr_pzP, show fr 0 = _ from q0, show fr 1 = _ from q1, show fr 7 = _ from q7, show fr 9 = _ from q9, show fr 10 = _ from q10, show fr 12 = _ from q12, show fr 34 = _ from q34, show fr 35 = _ from q35, show fr 36 = _ from q36]
  clear q0 q1 q7 q9 q10 q12 q34 q35 q36
  conv => arg 2; whnf
  go_wp2_with fail
  refine HPP.out.mono ?_
  rintro e w2 ⟨vg, rfl, hgo, hb2⟩
  have HG := Lib.hid ((Row.of_owns hgo).mono (Nat.zero_le _))
  have HX := Lib.hid (HB.out.trans (hb2.mono HB.out.size))
  have HY := Lib.hid (owns_below HOD.out hb2 (Nat.le_refl _))
  obtain ⟨p8, c8, hv8⟩ := (Row.of_owns hgo).shape
  subst hv8
  clear hgo hb2
  go_wp2_with fail
  refine Met.intro (hS _ _ ?_)
  exact ⟨_, ⟨HX.out, HG.out, HY.out⟩, Fr.of _ rfl ⟨rfl, rfl, rfl, rfl, rfl, rfl, rfl, rfl, trivial⟩⟩

set_option maxRecDepth 100000 in
set_option maxHeartbeats 1000000 in
theorem pz19 (w0 : World) (vt vr : Value) (ts : List ByteArray) (rs : List (List ByteArray)) (h : PlH w0 vt vr ts rs) (g : PlG ts rs) (k : Int) (hk : 0 ≤ k ∧ k < rs.length) (vg vO : Value) : T3 Try.prog (fun a w => (PlW w0 vg vO ts.length (leftK ts rs ((k + 1) : Int).toNat) (ordK ts rs ((k + 1) : Int).toNat) (2 ^ (rN ts - ((k + 1) : Int).toNat - 1)) w) ∧ Fr 83 [(0, vt), (1, vr), (7, .int .i64 ts.length), (8, vg), (9, vO), (34, vr), (35, .int .i64 rs.length), (36, .int .i64 k)] a) (sel [1, 1, 1, 1, 1, 1, 0, 1, 4, 4, 1, 1, 1] pzP) (fun a w => (PlW w0 vg vO ts.length (leftK ts rs ((k + 1) : Int).toNat) (ordK ts rs ((k + 1) : Int).toNat) (2 ^ (rN ts - ((k + 1) : Int).toNat - 1)) w) ∧ Fr 83 [(0, vt), (1, vr), (7, .int .i64 ts.length), (8, vg), (9, vO), (34, vr), (35, .int .i64 rs.length), (36, .int .i64 (k + 1))] a) No 9 (fun a w => ∃ v4 : Value, Fr 83 [(4, v4), (5, .int .i64 (playE ts rs))] a ∧ w.ownsRow w0.heap.size 9 1 v4 (playL ts rs).length (cellsOf encSt (playL ts rs)) ∧ Below w0.heap.size w0 w) := by
  refine T3.leaf ?_
  rintro Q JS JX JT K hS hK hX hE hT hR a w ⟨hW, ⟨fr, rfl, q0, q1, q7, q8, q9, q34, q35, q36, _⟩⟩
  have hk0 := hk.1
  have hk1 := hk.2
  have hrn := h.r.n
  have HW := Lib.hid hW
  obtain ⟨p8, c8, hv8⟩ := hW.gr.shape
  subst hv8
  obtain ⟨p9, c9, hv9⟩ := (Row.of_owns hW.od).shape
  subst hv9
  obtain ⟨p1, c1, hv1⟩ := h.s.t.shape
  subst hv1
  obtain ⟨p2, c2, hv2⟩ := h.r.shape
  subst hv2
  clear hW
  generalize ordK ts rs (k + 1).toNat = OO at *
  rw [fr_pzP, show fr 0 = _ from q0, show fr 1 = _ from q1, show fr 7 = _ from q7, show fr 8 = _ from q8, show fr 9 = _ from q9, show fr 34 = _ from q34, show fr 35 = _ from q35, show fr 36 = _ from q36]
  clear q0 q1 q7 q8 q9 q34 q35 q36
  conv => arg 2; whnf
  go_wp2_with fail
  refine Met.intro (hS _ _ ?_)
  exact ⟨HW.out, Fr.of _ rfl ⟨rfl, rfl, rfl, rfl, rfl, rfl, rfl, rfl, trivial⟩⟩

set_option maxRecDepth 100000 in
set_option maxHeartbeats 1000000 in
theorem pzL (w0 : World) (vt vr : Value) (ts : List ByteArray) (rs : List (List ByteArray)) (h : PlH w0 vt vr ts rs) (g : PlG ts rs) : T3 Try.prog (fun a w => ∃ (vg vO : Value), (PlW w0 vg vO ts.length (leftK ts rs (0 : Int).toNat) (ordK ts rs (0 : Int).toNat) (2 ^ (rN ts - (0 : Int).toNat - 1)) w) ∧ Fr 83 [(0, vt), (1, vr), (7, .int .i64 ts.length), (8, vg), (9, vO), (34, vr), (35, .int .i64 rs.length), (36, .int .i64 0)] a) (sel [1, 1, 1, 1, 1, 1, 0, 1] pzP) (fun a w => ∃ (vO : Value), (NoErr (rndK ts rs) rs.length) ∧ (PO w0 vO (playO ts rs) w) ∧ Fr 83 [(0, vt), (9, vO)] a) No 9 (fun a w => ∃ v4 : Value, Fr 83 [(4, v4), (5, .int .i64 (playE ts rs))] a ∧ w.ownsRow w0.heap.size 9 1 v4 (playL ts rs).length (cellsOf encSt (playL ts rs)) ∧ Below w0.heap.size w0 w) := by
  have hlo := g.lo
  have h1 := (rN_b (s_good g.e)).1
  refine T3.loop (c := (sel [1, 1, 1, 1, 1, 1, 0, 1, 4, 4] pzP)) (fun ng a w => ∃ k : Int, ((ng : Int) = rs.length - k ∧ (0 ≤ k ∧ k < rs.length) ∧ NoErr (rndK ts rs) k) ∧ ∃ (vg vO : Value), (PlW w0 vg vO ts.length (leftK ts rs (k : Int).toNat) (ordK ts rs (k : Int).toNat) (2 ^ (rN ts - (k : Int).toNat - 1)) w) ∧ Fr 83 [(0, vt), (1, vr), (7, .int .i64 ts.length), (8, vg), (9, vO), (34, vr), (35, .int .i64 rs.length), (36, .int .i64 k)] a) (fun a w q => ⟨rs.length, 0, ⟨by omega, ⟨by omega, by omega⟩, NoErr.zero _⟩, q⟩) (fun ng => T3.ex fun k => T3.pure fun hk3 => ?_)
  obtain ⟨hng, hk, hn⟩ := hk3
  refine T3.ex fun vg => T3.ex fun vO => ?_
  refine T3.seq (s := (sel [1, 1, 1, 1, 1, 1, 0, 1, 4, 4, 0] pzP)) (c := (sel [1, 1, 1, 1, 1, 1, 0, 1, 4, 4, 1] pzP)) ((pz10 w0 vt vr ts rs h g k hk hn vg vO).noX) ?_
  refine T3.seq (s := (sel [1, 1, 1, 1, 1, 1, 0, 1, 4, 4, 1, 0] pzP)) (c := (sel [1, 1, 1, 1, 1, 1, 0, 1, 4, 4, 1, 1] pzP)) (S := (fun a w => (PlW w0 vg vO ts.length (leftK ts rs (k : Int).toNat) (ordK ts rs (k : Int).toNat) (2 ^ (rN ts - (k : Int).toNat - 1)) w) ∧ Fr 83 [(0, vt), (1, vr), (7, .int .i64 ts.length), (8, vg), (9, vO), (34, vr), (35, .int .i64 rs.length), (36, .int .i64 k)] a)) ?_ ?_
  · exact T3.iff (x := .skip) (y := .exit 0) (M := fun q w => (q = true) ∧ PlW w0 vg vO ts.length (leftK ts rs (k : Int).toNat) (ordK ts rs (k : Int).toNat) (2 ^ (rN ts - (k : Int).toNat - 1)) w) (by decide) (T3.skip fun a w q => ⟨q.2.2, q.1.tail⟩) (T3.exit fun a w q => by cases q.2.1)
  refine T3.seq (s := (sel [1, 1, 1, 1, 1, 1, 0, 1, 4, 4, 1, 1, 0] pzP)) (c := (sel [1, 1, 1, 1, 1, 1, 0, 1, 4, 4, 1, 1, 1] pzP)) (S := fun a w => (k + 1 < rs.length ∧ NoErr (rndK ts rs) (k + 1)) ∧ ∃ (vg vO : Value), (PlW w0 vg vO ts.length (leftK ts rs ((k + 1) : Int).toNat) (ordK ts rs ((k + 1) : Int).toNat) (2 ^ (rN ts - ((k + 1) : Int).toNat - 1)) w) ∧ Fr 83 [(0, vt), (1, vr), (7, .int .i64 ts.length), (8, vg), (9, vO), (34, vr), (35, .int .i64 rs.length), (36, .int .i64 k)] a) ?_ ?_
  · refine T3.block (id' := 1) (c := (sel [1, 1, 1, 1, 1, 1, 0, 1, 4, 4, 1, 1, 0, 4] pzP)) (by decide) ?_
    refine T3.seq (s := (sel [1, 1, 1, 1, 1, 1, 0, 1, 4, 4, 1, 1, 0, 4, 0] pzP)) (c := (sel [1, 1, 1, 1, 1, 1, 0, 1, 4, 4, 1, 1, 0, 4, 1] pzP)) ((pz11 w0 vt vr ts rs h g k hk hn vg vO).noX) (T3.ex fun v11 => ?_)
    refine T3.seq (s := (sel [1, 1, 1, 1, 1, 1, 0, 1, 4, 4, 1, 1, 0, 4, 1, 0] pzP)) (c := (sel [1, 1, 1, 1, 1, 1, 0, 1, 4, 4, 1, 1, 0, 4, 1, 1] pzP)) ((pz12 w0 vt vr ts rs h g k hk hn vg vO v11).noX) (T3.ex fun vW => T3.ex fun vL => ?_)
    refine T3.seq (s := (sel [1, 1, 1, 1, 1, 1, 0, 1, 4, 4, 1, 1, 0, 4, 1, 1, 0] pzP)) (c := (sel [1, 1, 1, 1, 1, 1, 0, 1, 4, 4, 1, 1, 0, 4, 1, 1, 1] pzP)) (S := fun a w => (rndE ts (leftK ts rs k.toNat) (wsAt rs k.toNat) = 0) ∧ (P12 w0 vW vL vO (pyW ts (leftK ts rs k.toNat) (wsAt rs k.toNat)) (pyL ts (leftK ts rs k.toNat) (wsAt rs k.toNat)) (ordK ts rs k.toNat) w) ∧ Fr 83 [(0, vt), (1, vr), (7, .int .i64 ts.length), (9, vO), (10, .int .i64 k), (12, vW), (13, vL), (14, .int .i64 (rndE ts (leftK ts rs k.toNat) (wsAt rs k.toNat))), (34, vr), (35, .int .i64 rs.length), (36, .int .i64 k)] a) ?_ (T3.pure fun hz => ?_)
    · refine T3.test (s := (sel [1, 1, 1, 1, 1, 1, 0, 1, 4, 4, 1, 1, 0, 4, 1, 1, 0, 0] pzP)) (x := (sel [1, 1, 1, 1, 1, 1, 0, 1, 4, 4, 1, 1, 0, 4, 1, 1, 0, 1, 2] pzP)) (y := .skip) (C := fun q => (q = (rndE ts (leftK ts rs k.toNat) (wsAt rs k.toNat) != 0))) (W := fun w => P12 w0 vW vL vO (pyW ts (leftK ts rs k.toNat) (wsAt rs k.toNat)) (pyL ts (leftK ts rs k.toNat) (wsAt rs k.toNat)) (ordK ts rs k.toNat) w) (by decide) ((pz13 w0 vt vr ts rs h g k hk hn vO vW vL).noX) ?_ (T3.skip ?_)
      · refine T3.seq (s := (sel [1, 1, 1, 1, 1, 1, 0, 1, 4, 4, 1, 1, 0, 4, 1, 1, 0, 1, 2, 0] pzP)) (c := .ret) (t3_seqx (p := rndE ts (leftK ts rs k.toNat) (wsAt rs k.toNat) ≠ 0) ((pz14 w0 vt vr ts rs h g k hk hn vO vW vL).noX) ?_) (T3.ret ?_)
        · rintro a w ⟨hF, hq, hW⟩
          exact ⟨by have := hq.symm; simpa using this, hW, hF.tail⟩
        · rintro a w ⟨hp, hW, hF⟩
          have hd := pe_hit g.e g.l hk.1 hk.2 hn hp
          refine ⟨_, by rw [hd]; exact hF, ?_, hW.bel⟩
          rw [playL_bad (by rw [hd]; exact hp)]
          exact World.ownsRow_nil _ _ _ _
      · rintro a w ⟨hq, hW, hF⟩
        exact ⟨by have := hq.symm; simpa using this, hW, hF⟩
    have hn1 : NoErr (rndK ts rs) (k + 1) := hn.step hz
    refine T3.seq (s := (sel [1, 1, 1, 1, 1, 1, 0, 1, 4, 4, 1, 1, 0, 4, 1, 1, 1, 0] pzP)) (c := (sel [1, 1, 1, 1, 1, 1, 0, 1, 4, 4, 1, 1, 0, 4, 1, 1, 1, 1] pzP)) ((pz15 w0 vt vr ts rs h g k hk hn vO vW vL hz).noX) (T3.ex fun vO2 => ?_)
    refine T3.seq (s := (sel [1, 1, 1, 1, 1, 1, 0, 1, 4, 4, 1, 1, 0, 4, 1, 1, 1, 1, 0] pzP)) (c := (sel [1, 1, 1, 1, 1, 1, 0, 1, 4, 4, 1, 1, 0, 4, 1, 1, 1, 1, 1] pzP)) (S := fun a w => (k + 1 < rs.length) ∧ (P15 w0 vW vO2 (upL (leftK ts rs (k + 1).toNat)) (ordK ts rs (k + 1).toNat) w) ∧ Fr 83 [(0, vt), (1, vr), (7, .int .i64 ts.length), (9, vO2), (10, .int .i64 k), (12, vW), (34, vr), (35, .int .i64 rs.length), (36, .int .i64 k)] a) ?_ (T3.pure fun hk1 => ?_)
    · refine T3.test (s := (sel [1, 1, 1, 1, 1, 1, 0, 1, 4, 4, 1, 1, 0, 4, 1, 1, 1, 1, 0, 0] pzP)) (x := (sel [1, 1, 1, 1, 1, 1, 0, 1, 4, 4, 1, 1, 0, 4, 1, 1, 1, 1, 0, 1, 2] pzP)) (y := .skip) (C := fun q => (q = (k + 1 == (rs.length : Int)))) (W := fun w => P15 w0 vW vO2 (upL (leftK ts rs (k + 1).toNat)) (ordK ts rs (k + 1).toNat) w) (by decide) ((pz16 w0 vt vr ts rs h g k hk hn hz vW vO2).noX) ?_ (T3.skip ?_)
      · refine T3.seq (s := (sel [1, 1, 1, 1, 1, 1, 0, 1, 4, 4, 1, 1, 0, 4, 1, 1, 1, 1, 0, 1, 2, 0] pzP)) (c := .exit 0) (t3_seqx (p := k + 1 = rs.length) ((pz17 w0 vt vr ts rs h g k hk hn hz vW vO2).noX) ?_) (T3.exit ?_)
        · rintro a w ⟨hF, hq, hW⟩
          exact ⟨by have := hq.symm; simpa using this, hW, hF.tail⟩
        · rintro a w ⟨hp, v, hW, hF⟩
          refine ⟨v, by rw [← hp]; exact hn1, ?_, hF⟩
          have e : (k + 1).toNat = rs.length := by omega
          rw [e] at hW
          exact hW
      · rintro a w ⟨hq, hW, hF⟩
        exact ⟨by have := hq.symm; simp only [beq_eq_false_iff_ne, ne_eq] at this; omega, hW, hF⟩
    exact ((pz18 w0 vt vr ts rs h g k hk hn hz vW vO2 hk1).noX).post (fun a w ⟨vg, hW, hF⟩ => ⟨⟨hk1, hn1⟩, vg, vO2, hW, hF⟩)
  · refine T3.pure fun hkn => T3.ex fun vg2 => T3.ex fun vO2 => ?_
    exact ((pz19 w0 vt vr ts rs h g k hk vg2 vO2).noX).post (fun a w q => ⟨ng - 1, by omega, k + 1, ⟨by omega, ⟨by omega, hkn.1⟩, hkn.2⟩, vg2, vO2, q⟩)

end Go.Proofs.Ytkdimgghljklmaa
/-
  Finals: a bracket that is played, the program's Play, the names and the whole. Conditions: strings are no longer than Go's; at most 1000 seeds, rounds and names.
-/
set_option linter.unusedVariables false
namespace Go.Proofs.Ytkdimgghljklmaa
open Go.RowKit Go.Bw
set_option maxRecDepth 100000 in
set_option maxHeartbeats 1000000 in
theorem pz20 (w0 : World) (vt vr : Value) (ts : List ByteArray) (rs : List (List ByteArray)) (h : PlH w0 vt vr ts rs) (g : PlG ts rs) (hn : NoErr (rndK ts rs) rs.length) (vO : Value) : T3 Try.prog (fun a w => (PO w0 vO (playO ts rs) w) ∧ Fr 83 [(0, vt), (9, vO)] a) (sel [1, 1, 1, 1, 1, 1, 1, 0] pzP) (fun a w => (PO w0 vO (playO ts rs) w) ∧ Fr 83 [(0, vt), (9, vO), (15, .slice none 0 0)] a) No 9 (fun a w => ∃ v4 : Value, Fr 83 [(4, v4), (5, .int .i64 (playE ts rs))] a ∧ w.ownsRow w0.heap.size 9 1 v4 (playL ts rs).length (cellsOf encSt (playL ts rs)) ∧ Below w0.heap.size w0 w) := by
  refine T3.leaf ?_
  rintro Q JS JX JT K hS hK hX hE hT hR a w ⟨hW, ⟨fr, rfl, q0, q9, _⟩⟩
  have HW := Lib.hid hW
  obtain ⟨p9, c9, hv9⟩ := (Row.of_owns hW.od).shape
  subst hv9
  obtain ⟨p1, c1, hv1⟩ := h.s.t.shape
  subst hv1
  clear hW
  generalize playO ts rs = OO at *
  rw [fr_pzP, show fr 0 = _ from q0, show fr 9 = _ from q9]
  clear q0 q9
  conv => arg 2; whnf
  go_wp2_with fail
  refine Met.intro (hS _ _ ?_)
  exact ⟨HW.out, Fr.of _ rfl ⟨rfl, rfl, rfl, trivial⟩⟩

set_option maxRecDepth 100000 in
set_option maxHeartbeats 1000000 in
theorem pz21 (w0 : World) (vt vr : Value) (ts : List ByteArray) (rs : List (List ByteArray)) (h : PlH w0 vt vr ts rs) (g : PlG ts rs) (hn : NoErr (rndK ts rs) rs.length) (vO : Value) : T3 Try.prog (fun a w => (PO w0 vO (playO ts rs) w) ∧ Fr 83 [(0, vt), (9, vO), (15, .slice none 0 0)] a) (sel [1, 1, 1, 1, 1, 1, 1, 1, 0, 0] pzP) (fun a w => (0 ≤ (0 : Int) ∧ (0 : Int) ≤ (playO ts rs).length) ∧ ∃ (v15 : Value), (PN w0 ts vO v15 (playO ts rs) ((playO ts rs).take (0 : Int).toNat) w) ∧ Fr 83 [(0, vt), (15, v15), (67, vO), (68, .int .i64 (playO ts rs).length), (69, .int .i64 0)] a) No 9 (fun a w => ∃ v4 : Value, Fr 83 [(4, v4), (5, .int .i64 (playE ts rs))] a ∧ w.ownsRow w0.heap.size 9 1 v4 (playL ts rs).length (cellsOf encSt (playL ts rs)) ∧ Below w0.heap.size w0 w) := by
  refine T3.leaf ?_
  rintro Q JS JX JT K hS hK hX hE hT hR a w ⟨hW, ⟨fr, rfl, q0, q9, q15, _⟩⟩
  have HW := Lib.hid hW
  obtain ⟨p9, c9, hv9⟩ := (Row.of_owns hW.od).shape
  subst hv9
  obtain ⟨p1, c1, hv1⟩ := h.s.t.shape
  subst hv1
  clear hW
  generalize playO ts rs = OO at *
  rw [fr_pzP, show fr 0 = _ from q0, show fr 9 = _ from q9, show fr 15 = _ from q15]
  clear q0 q9 q15
  conv => arg 2; whnf
  go_wp2_with fail
  refine Met.intro (hS _ _ ?_)
  exact ⟨⟨by omega, by omega⟩, _, ⟨HW.out.bel, HW.out.od, World.ownsRow_nil _ _ _ _⟩, Fr.of _ rfl ⟨rfl, rfl, rfl, rfl, rfl, trivial⟩⟩

set_option maxRecDepth 100000 in
set_option maxHeartbeats 1000000 in
theorem pz23 (w0 : World) (vt vr : Value) (ts : List ByteArray) (rs : List (List ByteArray)) (h : PlH w0 vt vr ts rs) (g : PlG ts rs) (hn : NoErr (rndK ts rs) rs.length) (vO : Value) (k : Int) : T3 Try.prog (fun a w => ∃ (v15 : Value), (0 ≤ k ∧ k < (playO ts rs).length) ∧ (PN w0 ts vO v15 (playO ts rs) ((playO ts rs).take (k : Int).toNat) w) ∧ Fr 83 [(0, vt), (15, v15), (67, vO), (68, .int .i64 (playO ts rs).length), (69, .int .i64 k)] a) (sel [1, 1, 1, 1, 1, 1, 1, 1, 0, 1, 4, 4, 1, 1, 0, 4, 0] pzP) (fun a w => ∃ (v15 : Value), (0 ≤ k ∧ k < (playO ts rs).length) ∧ (PN w0 ts vO v15 (playO ts rs) ((playO ts rs).take (k : Int).toNat) w) ∧ Fr 83 [(0, vt), (15, v15), (17, .int .i64 (geti (playO ts rs) k)), (67, vO), (68, .int .i64 (playO ts rs).length), (69, .int .i64 k)] a) No 9 (fun a w => ∃ v4 : Value, Fr 83 [(4, v4), (5, .int .i64 (playE ts rs))] a ∧ w.ownsRow w0.heap.size 9 1 v4 (playL ts rs).length (cellsOf encSt (playL ts rs)) ∧ Below w0.heap.size w0 w) := by
  refine T3.leaf ?_
  rintro Q JS JX JT K hS hK hX hE hT hR a w ⟨v15, hpre, hW, ⟨fr, rfl, q0, q15, q67, q68, q69, _⟩⟩
  have hpp := Lib.hid hpre
  obtain ⟨hk0, hk1⟩ := hpre
  have HW := Lib.hid hW
  obtain ⟨_, hcs⟩ := (Row.of_owns hW.od).ints
  have h20 := (playO_in g hn).2
  rcases hcs with ⟨rfl, h0⟩ | ⟨bz, off, cap, rfl, _, hbz, hnc, hcm, hcell⟩
  · omega
  have t0 := hcell k hk0 hk1
  obtain ⟨p1, c1, hv1⟩ := h.s.t.shape
  subst hv1
  clear hcell hW
  generalize playO ts rs = OO at *
  rw [fr_pzP, show fr 0 = _ from q0, show fr 15 = _ from q15, show fr 67 = _ from q67, show fr 68 = _ from q68, show fr 69 = _ from q69]
  clear q0 q15 q67 q68 q69
  conv => arg 2; whnf
  go_wp2_with fail
  refine Met.intro (hS _ _ ?_)
  exact ⟨v15, hpp.out, HW.out, Fr.of _ rfl ⟨rfl, rfl, rfl, rfl, rfl, rfl, trivial⟩⟩

set_option maxRecDepth 100000 in
set_option maxHeartbeats 1000000 in
theorem pz24 (w0 : World) (vt vr : Value) (ts : List ByteArray) (rs : List (List ByteArray)) (h : PlH w0 vt vr ts rs) (g : PlG ts rs) (hn : NoErr (rndK ts rs) rs.length) (vO : Value) (k : Int) (v15 : Value) : T3 Try.prog (fun a w => (0 ≤ k ∧ k < (playO ts rs).length) ∧ (PN w0 ts vO v15 (playO ts rs) ((playO ts rs).take (k : Int).toNat) w) ∧ Fr 83 [(0, vt), (15, v15), (17, .int .i64 (geti (playO ts rs) k)), (67, vO), (68, .int .i64 (playO ts rs).length), (69, .int .i64 k)] a) (sel [1, 1, 1, 1, 1, 1, 1, 1, 0, 1, 4, 4, 1, 1, 0, 4, 1] pzP) (fun a w => ∃ (v15 : Value), (0 ≤ k ∧ k < (playO ts rs).length) ∧ (PN w0 ts vO v15 (playO ts rs) ((playO ts rs).take ((k + 1) : Int).toNat) w) ∧ Fr 83 [(0, vt), (15, v15), (67, vO), (68, .int .i64 (playO ts rs).length), (69, .int .i64 k)] a) No 9 (fun a w => ∃ v4 : Value, Fr 83 [(4, v4), (5, .int .i64 (playE ts rs))] a ∧ w.ownsRow w0.heap.size 9 1 v4 (playL ts rs).length (cellsOf encSt (playL ts rs)) ∧ Below w0.heap.size w0 w) := by
  refine T3.leaf ?_
  rintro Q JS JX JT K hS hK hX hE hT hR a w ⟨hpre, hW, ⟨fr, rfl, q0, q15, q17, q67, q68, q69, _⟩⟩
  have hpp := Lib.hid hpre
  obtain ⟨hk0, hk1⟩ := hpre
  obtain ⟨hin, h20⟩ := playO_in g hn
  have hx := hin _ (geti_mem hk0 hk1)
  have Hs := Lib.hid (takeO_succ (playO ts rs) k hk0 hk1)
  have hgl : ((playO ts rs).take k.toNat).length ≤ 2000 := by rw [List.length_take]; omega
  have htn := h.s.tn
  have HA := Lib.hid (fun w' v' => PN.app (w' := w') (v' := v') (x := geti (playO ts rs) k) (hW.alloc (.cells #[.string (geta ts (geti (playO ts rs) k - 1))] 9)))
  have HNM := hW.nm
  obtain ⟨_, hcs⟩ := (h.s.t.below hW.bel).els encSt_length (by decide)
  rcases hcs with ⟨rfl, h0⟩ | ⟨bz, off, cap, rfl, _, hbz, hnc, hcm, hcell⟩
  · omega
  have t0 := hcell (geti (playO ts rs) k - 1) (by omega) (by omega) 0 _ rfl
  rw [Nat.mul_one, Nat.add_zero] at t0
  obtain ⟨p9, c9, hv9⟩ := (Row.of_owns hW.nm).shape
  subst hv9
  obtain ⟨p8, c8, hv8⟩ := (Row.of_owns hW.od).shape
  subst hv8
  have hEL := el_strs
  have hbs := hW.bel.size
  clear hcell hin hW
  generalize geti (playO ts rs) k = x at *
  rw [show (x - 1).toNat = x.toNat - 1 by omega] at t0
  generalize hTK : (playO ts rs).take k.toNat = TK at *
  clear hTK
  generalize (playO ts rs).take (k + 1).toNat = TK1 at *
  generalize playO ts rs = OO at *
  generalize hnm : geta ts (x - 1) = nm at *
  clear hnm
  rw [fr_pzP, show fr 0 = _ from q0, show fr 15 = _ from q15, show fr 17 = _ from q17, show fr 67 = _ from q67, show fr 68 = _ from q68, show fr 69 = _ from q69]
  clear q0 q15 q17 q67 q68 q69
  conv => arg 2; whnf
  go_wp2_with (at_builtin; refine app_law rfl _ _ _ rfl hEL (HNM.alloc _) rfl [.string nm] rfl rfl (cells_new w #[_] _) (by simp [Value.oneCell']) (by omega) (by simp; omega) ?_; intro v' w3 hown3 hgr)
  refine Met.intro (hS _ _ ?_)
  have := HA.out w3 v' hown3 hgr
  refine ⟨v', hpp.out, ?_, Fr.of _ rfl ⟨rfl, rfl, rfl, rfl, rfl, trivial⟩⟩
  rw [Hs.out]
  exact this

set_option maxRecDepth 100000 in
set_option maxHeartbeats 1000000 in
theorem pz2b (w0 : World) (vt vr : Value) (ts : List ByteArray) (rs : List (List ByteArray)) (h : PlH w0 vt vr ts rs) (g : PlG ts rs) (hn : NoErr (rndK ts rs) rs.length) (vO : Value) (k : Int) : T3 Try.prog (fun a w => ∃ (v15 : Value), (0 ≤ k ∧ k < (playO ts rs).length) ∧ (PN w0 ts vO v15 (playO ts rs) ((playO ts rs).take (k : Int).toNat) w) ∧ Fr 83 [(0, vt), (15, v15), (67, vO), (68, .int .i64 (playO ts rs).length), (69, .int .i64 k)] a) (sel [1, 1, 1, 1, 1, 1, 1, 1, 0, 1, 4, 4, 1, 1, 0] pzP) (fun a w => ∃ (v15 : Value), (0 ≤ k ∧ k < (playO ts rs).length) ∧ (PN w0 ts vO v15 (playO ts rs) ((playO ts rs).take ((k + 1) : Int).toNat) w) ∧ Fr 83 [(0, vt), (15, v15), (67, vO), (68, .int .i64 (playO ts rs).length), (69, .int .i64 k)] a) No 9 (fun a w => ∃ v4 : Value, Fr 83 [(4, v4), (5, .int .i64 (playE ts rs))] a ∧ w.ownsRow w0.heap.size 9 1 v4 (playL ts rs).length (cellsOf encSt (playL ts rs)) ∧ Below w0.heap.size w0 w) := by
  refine T3.block (id' := 3) (c := (sel [1, 1, 1, 1, 1, 1, 1, 1, 0, 1, 4, 4, 1, 1, 0, 4] pzP)) (by decide) ?_
  refine T3.seq (s := (sel [1, 1, 1, 1, 1, 1, 1, 1, 0, 1, 4, 4, 1, 1, 0, 4, 0] pzP)) (c := (sel [1, 1, 1, 1, 1, 1, 1, 1, 0, 1, 4, 4, 1, 1, 0, 4, 1] pzP)) (pz23 w0 vt vr ts rs h g hn vO k) (T3.ex fun v15 => ?_)
  exact pz24 w0 vt vr ts rs h g hn vO k v15

def pzNI (w0 : World) (vt vr : Value) (ts : List ByteArray) (rs : List (List ByteArray)) (h : PlH w0 vt vr ts rs) (g : PlG ts rs) (hn : NoErr (rndK ts rs) rs.length) (vO : Value) (k : Int) (a : Act) (w : World) : Prop := (0 ≤ k ∧ k ≤ (playO ts rs).length) ∧ ∃ (v15 : Value), (PN w0 ts vO v15 (playO ts rs) ((playO ts rs).take (k : Int).toNat) w) ∧ Fr 83 [(0, vt), (15, v15), (67, vO), (68, .int .i64 (playO ts rs).length), (69, .int .i64 k)] a
set_option maxRecDepth 100000 in
set_option maxHeartbeats 1000000 in
theorem pzNt (w0 : World) (vt vr : Value) (ts : List ByteArray) (rs : List (List ByteArray)) (h : PlH w0 vt vr ts rs) (g : PlG ts rs) (hn : NoErr (rndK ts rs) rs.length) (vO : Value) (k : Int) : T3 Try.prog (fun a w => pzNI w0 vt vr ts rs h g hn vO k a w) (sel [1, 1, 1, 1, 1, 1, 1, 1, 0, 1, 4, 4, 0] pzP) (fun a w => ∃ q, Fr 83 ((70, .bool q) :: [(69, .int .i64 k)]) a ∧ ((q = true ↔ k < (playO ts rs).length) ∧ pzNI w0 vt vr ts rs h g hn vO k a w)) No 9 (fun a w => ∃ v4 : Value, Fr 83 [(4, v4), (5, .int .i64 (playE ts rs))] a ∧ w.ownsRow w0.heap.size 9 1 v4 (playL ts rs).length (cellsOf encSt (playL ts rs)) ∧ Below w0.heap.size w0 w) := by
  refine T3.leaf ?_
  rintro Q JS JX JT K hS hK hX hE hT hR a w ⟨hk, v15, hW, ⟨fr, rfl, q0, q15, q67, q68, q69, _⟩⟩
  have h20 := (playO_in g hn).2
  rw [fr_pzP, show fr 0 = _ from q0, show fr 15 = _ from q15, show fr 67 = _ from q67, show fr 68 = _ from q68, show fr 69 = _ from q69]
  clear q0 q15 q67 q68 q69
  conv => arg 2; whnf
  by_cases hlt : k < (playO ts rs).length
  · go_wp2_with fail
    refine Met.intro (hS _ _ ?_)
    exact ⟨true, Fr.of _ rfl ⟨rfl, rfl, trivial⟩, ⟨fun _ => hlt, fun _ => rfl⟩, hk, v15, hW, Fr.of _ rfl ⟨rfl, rfl, rfl, rfl, rfl, trivial⟩⟩
  · have hpb : decide (k < ((playO ts rs).length : Int)) = false := by simp; omega
    go_wp2_with fail
    refine Met.intro (hS _ _ ?_)
    exact ⟨false, Fr.of _ rfl ⟨rfl, rfl, trivial⟩, ⟨(fun h => by cases h), fun h => absurd h (by omega)⟩, hk, v15, hW, Fr.of _ rfl ⟨rfl, rfl, rfl, rfl, rfl, trivial⟩⟩

set_option maxRecDepth 100000 in
set_option maxHeartbeats 1000000 in
theorem pzNn (w0 : World) (vt vr : Value) (ts : List ByteArray) (rs : List (List ByteArray)) (h : PlH w0 vt vr ts rs) (g : PlG ts rs) (hn : NoErr (rndK ts rs) rs.length) (vO : Value) (k : Int) : T3 Try.prog (fun a w => (0 ≤ k ∧ k < (playO ts rs).length) ∧ ∃ (v15 : Value), (PN w0 ts vO v15 (playO ts rs) ((playO ts rs).take ((k + 1) : Int).toNat) w) ∧ Fr 83 [(0, vt), (15, v15), (67, vO), (68, .int .i64 (playO ts rs).length), (69, .int .i64 k)] a) (sel [1, 1, 1, 1, 1, 1, 1, 1, 0, 1, 4, 4, 1, 1, 1] pzP) (fun a w => pzNI w0 vt vr ts rs h g hn vO (k + 1) a w) No 9 (fun a w => ∃ v4 : Value, Fr 83 [(4, v4), (5, .int .i64 (playE ts rs))] a ∧ w.ownsRow w0.heap.size 9 1 v4 (playL ts rs).length (cellsOf encSt (playL ts rs)) ∧ Below w0.heap.size w0 w) := by
  refine T3.leaf ?_
  rintro Q JS JX JT K hS hK hX hE hT hR a w ⟨hk, v15, hW, ⟨fr, rfl, q0, q15, q67, q68, q69, _⟩⟩
  obtain ⟨hk0, hk1⟩ := hk
  have h20 := (playO_in g hn).2
  rw [fr_pzP, show fr 0 = _ from q0, show fr 15 = _ from q15, show fr 67 = _ from q67, show fr 68 = _ from q68, show fr 69 = _ from q69]
  clear q0 q15 q67 q68 q69
  conv => arg 2; whnf
  go_wp2_with fail
  refine Met.intro (hS _ _ ?_)
  exact ⟨⟨by omega, by omega⟩, v15, hW, Fr.of _ rfl ⟨rfl, rfl, rfl, rfl, rfl, trivial⟩⟩

set_option maxRecDepth 100000 in
set_option maxHeartbeats 1000000 in
theorem pzNloop (w0 : World) (vt vr : Value) (ts : List ByteArray) (rs : List (List ByteArray)) (h : PlH w0 vt vr ts rs) (g : PlG ts rs) (hn : NoErr (rndK ts rs) rs.length) (vO : Value) : T3 Try.prog (fun a w => pzNI w0 vt vr ts rs h g hn vO 0 a w) (sel [1, 1, 1, 1, 1, 1, 1, 1, 0, 1] pzP) (fun a w => ∃ (v15 : Value), (PN w0 ts vO v15 (playO ts rs) (playO ts rs) w) ∧ Fr 83 [(15, v15)] a) No 9 (fun a w => ∃ v4 : Value, Fr 83 [(4, v4), (5, .int .i64 (playE ts rs))] a ∧ w.ownsRow w0.heap.size 9 1 v4 (playL ts rs).length (cellsOf encSt (playL ts rs)) ∧ Below w0.heap.size w0 w) := by
  refine T3.loop (c := (sel [1, 1, 1, 1, 1, 1, 1, 1, 0, 1, 4, 4] pzP)) (fun ng_ a w => ∃ k : Int, (ng_ : Int) = (playO ts rs).length - k ∧ pzNI w0 vt vr ts rs h g hn vO k a w) (fun a w h => ⟨((playO ts rs).length : Int).toNat, 0, by have := h.1.2; omega, h⟩) (fun ng_ => T3.ex fun k => T3.pure fun hng_ => ?_)
  refine T3.seq (s := (sel [1, 1, 1, 1, 1, 1, 1, 1, 0, 1, 4, 4, 0] pzP)) (c := (sel [1, 1, 1, 1, 1, 1, 1, 1, 0, 1, 4, 4, 1] pzP)) ((pzNt w0 vt vr ts rs h g hn vO k).noX) ?_
  refine T3.seq (s := (sel [1, 1, 1, 1, 1, 1, 1, 1, 0, 1, 4, 4, 1, 0] pzP)) (c := (sel [1, 1, 1, 1, 1, 1, 1, 1, 0, 1, 4, 4, 1, 1] pzP)) (S := fun a w => (0 ≤ k ∧ k < (playO ts rs).length) ∧ ∃ (v15 : Value), (PN w0 ts vO v15 (playO ts rs) ((playO ts rs).take (k : Int).toNat) w) ∧ Fr 83 [(0, vt), (15, v15), (67, vO), (68, .int .i64 (playO ts rs).length), (69, .int .i64 k)] a) ?_ (T3.seq (s := (sel [1, 1, 1, 1, 1, 1, 1, 1, 0, 1, 4, 4, 1, 1, 0] pzP)) (c := (sel [1, 1, 1, 1, 1, 1, 1, 1, 0, 1, 4, 4, 1, 1, 1] pzP)) (S := fun a w => (0 ≤ k ∧ k < (playO ts rs).length) ∧ ∃ (v15 : Value), (PN w0 ts vO v15 (playO ts rs) ((playO ts rs).take ((k + 1) : Int).toNat) w) ∧ Fr 83 [(0, vt), (15, v15), (67, vO), (68, .int .i64 (playO ts rs).length), (69, .int .i64 k)] a) (T3.noX (T3.mono (R' := fun a w => (0 ≤ k ∧ k < (playO ts rs).length) ∧ ∃ (v15 : Value), (PN w0 ts vO v15 (playO ts rs) ((playO ts rs).take (k : Int).toNat) w) ∧ Fr 83 [(0, vt), (15, v15), (67, vO), (68, .int .i64 (playO ts rs).length), (69, .int .i64 k)] a) (S' := fun a w => (0 ≤ k ∧ k < (playO ts rs).length) ∧ ∃ (v15 : Value), (PN w0 ts vO v15 (playO ts rs) ((playO ts rs).take ((k + 1) : Int).toNat) w) ∧ Fr 83 [(0, vt), (15, v15), (67, vO), (68, .int .i64 (playO ts rs).length), (69, .int .i64 k)] a) (pz2b w0 vt vr ts rs h g hn vO k) (fun a w ⟨hk, v15, hI⟩ => ⟨v15, hk, hI⟩) (fun a w ⟨v15, hk, hI⟩ => ⟨hk, v15, hI⟩) (fun _ _ q => q) (fun _ _ q => q))) ?_)
  · refine T3.cond (o := .tmp 70) (x := .skip) (y := .exit 2) (fun a w => k < (playO ts rs).length ∧ pzNI w0 vt vr ts rs h g hn vO k a w) (fun a w => ¬ k < (playO ts rs).length ∧ pzNI w0 vt vr ts rs h g hn vO k a w) ?_ (T3.skip ?_) (T3.exit ?_)
    · rintro a w ⟨q, hF, hq, hI⟩
      have he := hF.eval 70 (by decide) (v := .bool q) (by simp)
      cases q
      · exact .inr ⟨he, (fun h => by have := hq.2 h; cases this), hI⟩
      · exact .inl ⟨he, hq.1 rfl, hI⟩
    · rintro a w ⟨hlt, hk, hI⟩
      exact ⟨⟨hk.1, hlt⟩, hI⟩
    · rintro a w ⟨hlt, hk, hI⟩
      obtain rfl : k = (playO ts rs).length := by omega
      obtain ⟨v15, hW, hF⟩ := hI
      rw [show ((playO ts rs).length : Int).toNat = (playO ts rs).length by omega, List.take_length] at hW
      exact ⟨v15, hW, hF.sub (by simp)⟩
  · intro a w hx
    have hk := hx.1
    exact (((pzNn w0 vt vr ts rs h g hn vO k).noX).post (fun a w q => ⟨ng_ - 1, by omega, k + 1, by omega, q⟩)) a w hx
set_option maxRecDepth 100000 in
set_option maxHeartbeats 1000000 in
theorem pz26 (w0 : World) (vt vr : Value) (ts : List ByteArray) (rs : List (List ByteArray)) (h : PlH w0 vt vr ts rs) (g : PlG ts rs) (hn : NoErr (rndK ts rs) rs.length) (vO : Value) : T3 Try.prog (fun a w => ∃ (v15 : Value), (PN w0 ts vO v15 (playO ts rs) (playO ts rs) w) ∧ Fr 83 [(15, v15)] a) (sel [1, 1, 1, 1, 1, 1, 1, 1, 1, 0] pzP) (fun a w => ∃ (v15 : Value), (PN w0 ts vO v15 (playO ts rs) (playO ts rs) w) ∧ Fr 83 [(4, v15), (5, .int .i64 0)] a) No 9 (fun a w => ∃ v4 : Value, Fr 83 [(4, v4), (5, .int .i64 (playE ts rs))] a ∧ w.ownsRow w0.heap.size 9 1 v4 (playL ts rs).length (cellsOf encSt (playL ts rs)) ∧ Below w0.heap.size w0 w) := by
  refine T3.leaf ?_
  rintro Q JS JX JT K hS hK hX hE hT hR a w ⟨v15, hW, ⟨fr, rfl, q15, _⟩⟩
  have HW := Lib.hid hW
  obtain ⟨p9, c9, hv9⟩ := (Row.of_owns hW.nm).shape
  subst hv9
  clear hW
  generalize playO ts rs = OO at *
  rw [fr_pzP, show fr 15 = _ from q15]
  clear q15
  conv => arg 2; whnf
  go_wp2_with fail
  refine Met.intro (hS _ _ ?_)
  exact ⟨_, HW.out, Fr.of _ rfl ⟨rfl, rfl, trivial⟩⟩

set_option maxRecDepth 100000 in
set_option maxHeartbeats 1000000 in
theorem pz_all (w0 : World) (vt vr : Value) (ts : List ByteArray) (rs : List (List ByteArray)) (h : PlH w0 vt vr ts rs) : T3 Try.prog (fun a w => (IsW w0 w) ∧ Fr 83 [(0, vt), (1, vr)] a) pzP No No 9 (fun a w => ∃ v4 : Value, Fr 83 [(4, v4), (5, .int .i64 (playE ts rs))] a ∧ w.ownsRow w0.heap.size 9 1 v4 (playL ts rs).length (cellsOf encSt (playL ts rs)) ∧ Below w0.heap.size w0 w) := by
  refine T3.seq (s := (sel [0] pzP)) (c := (sel [1] pzP)) (pz0 w0 vt vr ts rs h) ?_
  refine T3.seq (s := (sel [1, 0] pzP)) (c := (sel [1, 1] pzP)) (S := fun a w => (seedsE ts = 0) ∧ (IsW w0 w) ∧ Fr 83 [(0, vt), (1, vr)] a) ?_ (T3.pure fun hE => ?_)
  · refine T3.seq (s := (sel [1, 0, 0] pzP)) (c := (sel [1, 0, 1] pzP)) (pz1 w0 vt vr ts rs h) ?_
    refine T3.test (s := (sel [1, 0, 1, 0] pzP)) (x := (sel [1, 0, 1, 1, 2] pzP)) (y := .skip) (C := fun q => (q = (seedsE ts != 0))) (W := fun w => IsW w0 w) (by decide) (pz2 w0 vt vr ts rs h) ?_ (T3.skip ?_)
    · refine T3.seq (s := (sel [1, 0, 1, 1, 2, 0] pzP)) (c := .ret) (t3_seqx (p := seedsE ts ≠ 0) (pz3 w0 vt vr ts rs h) ?_) (T3.ret ?_)
      · rintro a w ⟨hF, hq, hW⟩
        exact ⟨by have := hq.symm; simpa using this, hW, hF.tail⟩
      · rintro a w ⟨hp, hW, hF⟩
        have hd := pe_seeds (rs := rs) hp
        refine ⟨_, by rw [hd]; exact hF, by rw [playL_bad (by rw [hd]; exact hp)]; exact World.ownsRow_nil _ _ _ _, ?_⟩
        obtain rfl : w = w0 := hW
        exact Below.refl _ _
    · rintro a w ⟨hq, hW, hF⟩
      exact ⟨by have := hq.symm; simpa using this, hW, hF.sub (by simp)⟩
  have hg := s_good hE
  refine T3.seq (s := (sel [1, 1, 0] pzP)) (c := (sel [1, 1, 1] pzP)) (pz4 w0 vt vr ts rs h) ?_
  refine T3.seq (s := (sel [1, 1, 1, 0] pzP)) (c := (sel [1, 1, 1, 1] pzP)) (S := fun a w => ((rs.length : Int) = roundsF ts.length) ∧ (IsW w0 w) ∧ Fr 83 [(0, vt), (1, vr), (7, .int .i64 ts.length)] a) ?_ (T3.pure fun hL => ?_)
  · refine T3.test (s := (sel [1, 1, 1, 0, 0] pzP)) (x := (sel [1, 1, 1, 0, 1, 2] pzP)) (y := .skip) (C := fun q => (q = ((rs.length : Int) != roundsF ts.length))) (W := fun w => IsW w0 w) (by decide) (pz5 w0 vt vr ts rs h hg) ?_ (T3.skip ?_)
    · refine T3.seq (s := (sel [1, 1, 1, 0, 1, 2, 0] pzP)) (c := .ret) (t3_seqx (p := (rs.length : Int) ≠ roundsF ts.length) (pz6 w0 vt vr ts rs h hg) ?_) (T3.ret ?_)
      · rintro a w ⟨hF, hq, hW⟩
        exact ⟨by have := hq.symm; simpa using this, hW, hF.tail⟩
      · rintro a w ⟨hp, hW, hF⟩
        have hd := pe_form hE hp
        refine ⟨_, by rw [hd]; exact hF, by rw [playL_bad (by rw [hd]; decide)]; exact World.ownsRow_nil _ _ _ _, ?_⟩
        obtain rfl : w = w0 := hW
        exact Below.refl _ _
    · rintro a w ⟨hq, hW, hF⟩
      exact ⟨by have := hq.symm; simpa using this, hW, hF⟩
  have g : PlG ts rs := ⟨hE, hL⟩
  refine T3.seq (s := (sel [1, 1, 1, 1, 0] pzP)) (c := (sel [1, 1, 1, 1, 1] pzP)) (pz7 w0 vt vr ts rs h g) ?_
  refine T3.ex fun vg => ?_
  refine T3.seq (s := (sel [1, 1, 1, 1, 1, 0] pzP)) (c := (sel [1, 1, 1, 1, 1, 1] pzP)) (pz8 w0 vt vr ts rs h g vg) ?_
  refine T3.seq (s := (sel [1, 1, 1, 1, 1, 1, 0] pzP)) (c := (sel [1, 1, 1, 1, 1, 1, 1] pzP)) (T3.seq (s := (sel [1, 1, 1, 1, 1, 1, 0, 0] pzP)) (c := (sel [1, 1, 1, 1, 1, 1, 0, 1] pzP)) (pz9 w0 vt vr ts rs h g vg) (pzL w0 vt vr ts rs h g)) ?_
  refine T3.ex fun vO => T3.pre (R := fun a w => (NoErr (rndK ts rs) rs.length) ∧ (PO w0 vO (playO ts rs) w) ∧ Fr 83 [(0, vt), (9, vO)] a) (T3.pure fun hn => ?_) (fun a w q => q)
  have hd := pe_ok hE hL hn
  refine T3.seq (s := (sel [1, 1, 1, 1, 1, 1, 1, 0] pzP)) (c := (sel [1, 1, 1, 1, 1, 1, 1, 1] pzP)) (pz20 w0 vt vr ts rs h g hn vO) ?_
  refine T3.seq (s := (sel [1, 1, 1, 1, 1, 1, 1, 1, 0] pzP)) (c := (sel [1, 1, 1, 1, 1, 1, 1, 1, 1] pzP)) (T3.seq (s := (sel [1, 1, 1, 1, 1, 1, 1, 1, 0, 0] pzP)) (c := (sel [1, 1, 1, 1, 1, 1, 1, 1, 0, 1] pzP)) (pz21 w0 vt vr ts rs h g hn vO) (pzNloop w0 vt vr ts rs h g hn vO)) ?_
  refine T3.seq (s := (sel [1, 1, 1, 1, 1, 1, 1, 1, 1, 0] pzP)) (c := .ret) (pz26 w0 vt vr ts rs h g hn vO) (T3.ret ?_)
  rintro a w ⟨v15, hW, hF⟩
  refine ⟨v15, by rw [hd]; exact hF, ?_, hW.bel⟩
  unfold playL
  rw [if_pos hd]
  have hl : (namesO ts (playO ts rs)).length = (playO ts rs).length := by simp [namesO]
  rw [hl]
  exact hW.nm

set_option maxRecDepth 100000 in
set_option maxHeartbeats 1000000 in
theorem play_prog (w0 : World) (vt vr : Value) (ts : List ByteArray) (rs : List (List ByteArray)) (h : PlH w0 vt vr ts rs) : Calls Try.prog 28 #[vt, vr] w0 fun e w' => ∃ v4 : Value, e = .returned (.tuple #[v4, .int .i64 (playE ts rs)]) ∧ w'.ownsRow w0.heap.size 9 1 v4 (playL ts rs).length (cellsOf encSt (playL ts rs)) ∧ Below w0.heap.size w0 w' := by
  have hall := pz_all w0 vt vr ts rs h
  go_enter Try.func28, Try.ntmps28
  refine T3.done (s := pzP) hall ⟨rfl, Fr.of _ rfl ⟨rfl, rfl, trivial⟩⟩ ?_
  rintro a w ⟨v4, ⟨fr, rfl, q4, q5, _⟩, ho, hb⟩
  obtain ⟨p9, c9, hv9⟩ := (Row.of_owns ho).shape
  rw [hv9] at ho
  rw [fr_pzP, show fr 4 = _ from q4, hv9, show fr 5 = _ from q5]
  go_ret2
  exact ⟨_, rfl, ho, hb⟩
end Go.Proofs.Ytkdimgghljklmaa
/-
  Finals: a bracket that is played, the reference's PlayOf: its head. Conditions: strings are no longer than Go's; at most 1000 seeds, rounds and names.
-/
set_option linter.unusedVariables false
namespace Go.Proofs.Ytkdimgghljklmaa
open Go.RowKit Go.Bw
/-- The data, behind the box of the seeds. -/
structure QH (w0 : World) (gb : Nat) (vt vr : Value) (ts : List ByteArray) (rs : List (List ByteArray)) : Prop where
  s : SdH w0 vt ts
  r : RsH w0 vr rs
  c : w0.cell? ⟨gb, 0, none⟩ = some vt
theorem QH.cell {w0 w : World} {gb : Nat} {vt vr : Value} {ts : List ByteArray} {rs : List (List ByteArray)} (h : QH w0 gb vt vr ts rs) (b : Below w0.heap.size w0 w) : w.cell? ⟨gb, 0, none⟩ = some vt :=
  (b.cell (p := ⟨gb, 0, none⟩) (World.block_lt_of_cell? w0 _ h.c)).trans h.c
theorem QH.start {w0 : World} {vt vr : Value} {ts : List ByteArray} {rs : List (List ByteArray)} (h : PlH w0 vt vr ts rs) (e : TypeId) : QH (w0.alloc (.cells #[vt] e)) w0.heap.size vt vr ts rs := by
  have b := (Below.refl w0.heap.size w0).alloc (Nat.le_refl _) (.cells #[vt] e)
  exact ⟨h.s.below b, h.r.below b, cells_new w0 _ e 0 _ rfl⟩
/-- A list of numbers of the call's own. -/
structure OwI (w0 : World) (v : Value) (l : List Int) (w : World) : Prop where
  bel : Below w0.heap.size w0 w
  own : w.ownsRow w0.heap.size 3 1 v l.length (l.map (.int .i64))
theorem OwI.app {w0 w w' : World} {v v' : Value} {l : List Int} {x : Int} (h : OwI w0 v l w) (ho : w'.ownsRow w0.heap.size 3 1 v' (l.length + 1) (l.map (.int .i64) ++ [.int .i64 x])) (g : w.grownBy w' v.ownBlock) : OwI w0 v' (l ++ [x]) w' :=
  ⟨h.bel.grown g h.bel.size (fun k hk => (h.own.lt k hk).1), by rw [List.map_append, List.length_append]; exact ho⟩
theorem OwI.alloc {w0 w : World} {v : Value} {l : List Int} (h : OwI w0 v l w) (ob : Obj) : OwI w0 v l (w.alloc ob) := ⟨h.bel.alloc h.bel.size ob, h.own.alloc ob⟩
theorem left0_succ (m : Nat) (k : Int) (h0 : 0 ≤ k) (h1 : k < (bracketL (m : Int)).length) : (left0 m).take (k + 1).toNat = (left0 m).take k.toNat ++ [geti (bracketL (m : Int)) k - 1] := by
  have hl : (left0 m).length = (bracketL (m : Int)).length := by unfold left0; rw [List.length_map]
  rw [show (k + 1).toNat = k.toNat + 1 by omega, List.take_succ_eq_append_getElem (by omega)]
  congr 2
  unfold left0
  rw [List.getElem_map]
  simp [geti, show k.toNat < (bracketL (m : Int)).length by omega]
noncomputable def poR : Code := (Try.f30.body).getD .skip
set_option maxRecDepth 100000 in
theorem fr_poR (f : Nat → Value) : frame 146 f = ⟨#[f 0, f 1, f 2, f 3, f 4, f 5, f 6, f 7, f 8, f 9, f 10, f 11, f 12, f 13, f 14, f 15, f 16, f 17, f 18, f 19, f 20, f 21, f 22, f 23, f 24, f 25, f 26, f 27, f 28, f 29, f 30, f 31, f 32, f 33, f 34, f 35, f 36, f 37, f 38, f 39, f 40, f 41, f 42, f 43, f 44, f 45, f 46, f 47, f 48, f 49, f 50, f 51, f 52, f 53, f 54, f 55, f 56, f 57, f 58, f 59, f 60, f 61, f 62, f 63, f 64, f 65, f 66, f 67, f 68, f 69, f 70, f 71, f 72, f 73, f 74, f 75, f 76, f 77, f 78, f 79, f 80, f 81, f 82, f 83, f 84, f 85, f 86, f 87, f 88, f 89, f 90, f 91, f 92, f 93, f 94, f 95, f 96, f 97, f 98, f 99, f 100, f 101, f 102, f 103, f 104, f 105, f 106, f 107, f 108, f 109, f 110, f 111, f 112, f 113, f 114, f 115, f 116, f 117, f 118, f 119, f 120, f 121, f 122, f 123, f 124, f 125, f 126, f 127, f 128, f 129, f 130, f 131, f 132, f 133, f 134, f 135, f 136, f 137, f 138, f 139, f 140, f 141, f 142, f 143, f 144, f 145], []⟩ := by rfl
set_option maxRecDepth 100000 in
set_option maxHeartbeats 1000000 in
theorem po1 (w0 : World) (gb : Nat) (vt vr : Value) (ts : List ByteArray) (rs : List (List ByteArray)) (h : QH w0 gb vt vr ts rs) : T3 Try.prog (fun a w => (IsW w0 w) ∧ Fr 146 [(1, vr), (2, .pointer (some ⟨gb, 0, none⟩))] a) (sel [1, 0, 0] poR) (fun a w => (IsW w0 w) ∧ Fr 146 [(1, vr), (2, .pointer (some ⟨gb, 0, none⟩)), (6, .int .i64 (seedsE ts))] a) No 9 (fun a w => ∃ v4 : Value, Fr 146 [(4, v4), (5, .int .i64 (playE ts rs))] a ∧ w.ownsRow w0.heap.size 9 1 v4 (playL ts rs).length (cellsOf encSt (playL ts rs)) ∧ Below w0.heap.size w0 w) := by
  refine T3.leaf ?_
  rintro Q JS JX JT K hS hK hX hE hT hR a w ⟨hW, ⟨fr, rfl, q1, q2, _⟩⟩
  obtain rfl : w = w0 := hW
  have xc := h.c
  have HP := Lib.hid (seeds_ref w vt ts h.s)
  generalize seedsE ts = e0 at *
  obtain ⟨p1, c1, hv1⟩ := h.s.t.shape
  obtain ⟨p2, c2, hv2⟩ := h.r.shape
  subst hv2
  subst hv1
  rw [fr_poR, show fr 1 = _ from q1, show fr 2 = _ from q2]
  clear q1 q2
  conv => arg 2; whnf
  go_wp2_with fail
  refine HP.out.mono ?_
  rintro e w1 ⟨rfl, rfl⟩
  go_wp2_with fail
  refine Met.intro (hS _ _ ?_)
  exact ⟨rfl, Fr.of _ rfl ⟨rfl, rfl, rfl, trivial⟩⟩

set_option maxRecDepth 100000 in
set_option maxHeartbeats 1000000 in
theorem po2 (w0 : World) (gb : Nat) (vt vr : Value) (ts : List ByteArray) (rs : List (List ByteArray)) (h : QH w0 gb vt vr ts rs) : T3 Try.prog (fun a w => (IsW w0 w) ∧ Fr 146 [(1, vr), (2, .pointer (some ⟨gb, 0, none⟩)), (6, .int .i64 (seedsE ts))] a) (sel [1, 0, 1, 0] poR) (fun a w => ∃ q, Fr 146 ((25, .bool q) :: [(1, vr), (2, .pointer (some ⟨gb, 0, none⟩)), (6, .int .i64 (seedsE ts))]) a ∧ ((q = (seedsE ts != 0)) ∧ IsW w0 w)) No 9 (fun a w => ∃ v4 : Value, Fr 146 [(4, v4), (5, .int .i64 (playE ts rs))] a ∧ w.ownsRow w0.heap.size 9 1 v4 (playL ts rs).length (cellsOf encSt (playL ts rs)) ∧ Below w0.heap.size w0 w) := by
  refine T3.leaf ?_
  rintro Q JS JX JT K hS hK hX hE hT hR a w ⟨hW, ⟨fr, rfl, q1, q2, q6, _⟩⟩
  generalize seedsE ts = e0 at *
  obtain ⟨p1, c1, hv1⟩ := h.s.t.shape
  obtain ⟨p2, c2, hv2⟩ := h.r.shape
  subst hv2
  subst hv1
  rw [fr_poR, show fr 1 = _ from q1, show fr 2 = _ from q2, show fr 6 = _ from q6]
  clear q1 q2 q6
  conv => arg 2; whnf
  go_wp2_with fail
  refine Met.intro (hS _ _ ?_)
  exact ⟨_, Fr.of _ rfl ⟨rfl, rfl, rfl, rfl, trivial⟩, rfl, hW⟩

set_option maxRecDepth 100000 in
set_option maxHeartbeats 1000000 in
theorem po3 (w0 : World) (gb : Nat) (vt vr : Value) (ts : List ByteArray) (rs : List (List ByteArray)) (h : QH w0 gb vt vr ts rs) : T3 Try.prog (fun a w => (IsW w0 w) ∧ Fr 146 [(1, vr), (2, .pointer (some ⟨gb, 0, none⟩)), (6, .int .i64 (seedsE ts))] a) (sel [1, 0, 1, 1, 2, 0] poR) (fun a w => (IsW w0 w) ∧ Fr 146 [(4, .slice none 0 0), (5, .int .i64 (seedsE ts))] a) No 9 (fun a w => ∃ v4 : Value, Fr 146 [(4, v4), (5, .int .i64 (playE ts rs))] a ∧ w.ownsRow w0.heap.size 9 1 v4 (playL ts rs).length (cellsOf encSt (playL ts rs)) ∧ Below w0.heap.size w0 w) := by
  refine T3.leaf ?_
  rintro Q JS JX JT K hS hK hX hE hT hR a w ⟨hW, ⟨fr, rfl, q1, q2, q6, _⟩⟩
  generalize seedsE ts = e0 at *
  obtain ⟨p1, c1, hv1⟩ := h.s.t.shape
  obtain ⟨p2, c2, hv2⟩ := h.r.shape
  subst hv2
  subst hv1
  rw [fr_poR, show fr 1 = _ from q1, show fr 2 = _ from q2, show fr 6 = _ from q6]
  clear q1 q2 q6
  conv => arg 2; whnf
  go_wp2_with fail
  refine Met.intro (hS _ _ ?_)
  exact ⟨hW, Fr.of _ rfl ⟨rfl, rfl, trivial⟩⟩

set_option maxRecDepth 100000 in
set_option maxHeartbeats 1000000 in
theorem po4 (w0 : World) (gb : Nat) (vt vr : Value) (ts : List ByteArray) (rs : List (List ByteArray)) (h : QH w0 gb vt vr ts rs) (hg : SGood ts) : T3 Try.prog (fun a w => (Below w0.heap.size w0 w) ∧ Fr 146 [(1, vr), (2, .pointer (some ⟨gb, 0, none⟩))] a) (sel [1, 1, 0, 0] poR) (fun a w => ∃ q, Fr 146 ((32, .bool q) :: [(1, vr), (2, .pointer (some ⟨gb, 0, none⟩))]) a ∧ ((q = ((rs.length : Int) != roundsF ts.length)) ∧ Below w0.heap.size w0 w)) No 9 (fun a w => ∃ v4 : Value, Fr 146 [(4, v4), (5, .int .i64 (playE ts rs))] a ∧ w.ownsRow w0.heap.size 9 1 v4 (playL ts rs).length (cellsOf encSt (playL ts rs)) ∧ Below w0.heap.size w0 w) := by
  refine T3.leaf ?_
  rintro Q JS JX JT K hS hK hX hE hT hR a w ⟨hW, ⟨fr, rfl, q1, q2, _⟩⟩
  have n2 := hg.n2
  have n20 := hg.n20
  have xc := h.cell hW
  have HB := Lib.hid hW
  have HP := Lib.hid (fun w => rounds_ref ts.length w (by omega) (by omega))
  obtain ⟨p1, c1, hv1⟩ := h.s.t.shape
  obtain ⟨p2, c2, hv2⟩ := h.r.shape
  subst hv2
  subst hv1
  clear hW
  generalize roundsF ts.length = rr at *
  generalize hq : ((rs.length : Int) != rr) = q at *
  rw [fr_poR, show fr 1 = _ from q1, show fr 2 = _ from q2]
  clear q1 q2
  conv => arg 2; whnf
  go_wp2_with fail
  refine (HP.out _).mono ?_
  rintro e w1 ⟨rfl, hb⟩
  have HX := Lib.hid (HB.out.trans (hb.mono HB.out.size))
  clear hb
  go_wp2_with fail
  refine Met.intro (hS _ _ ?_)
  exact ⟨_, Fr.of _ rfl ⟨rfl, rfl, rfl, trivial⟩, rfl, HX.out⟩

set_option maxRecDepth 100000 in
set_option maxHeartbeats 1000000 in
theorem po5 (w0 : World) (gb : Nat) (vt vr : Value) (ts : List ByteArray) (rs : List (List ByteArray)) (h : QH w0 gb vt vr ts rs) (hg : SGood ts) : T3 Try.prog (fun a w => (Below w0.heap.size w0 w) ∧ Fr 146 [(1, vr), (2, .pointer (some ⟨gb, 0, none⟩))] a) (sel [1, 1, 0, 1, 2, 0] poR) (fun a w => (Below w0.heap.size w0 w) ∧ Fr 146 [(4, .slice none 0 0), (5, .int .i64 3)] a) No 9 (fun a w => ∃ v4 : Value, Fr 146 [(4, v4), (5, .int .i64 (playE ts rs))] a ∧ w.ownsRow w0.heap.size 9 1 v4 (playL ts rs).length (cellsOf encSt (playL ts rs)) ∧ Below w0.heap.size w0 w) := by
  refine T3.leaf ?_
  rintro Q JS JX JT K hS hK hX hE hT hR a w ⟨hW, ⟨fr, rfl, q1, q2, _⟩⟩
  obtain ⟨p1, c1, hv1⟩ := h.s.t.shape
  obtain ⟨p2, c2, hv2⟩ := h.r.shape
  subst hv2
  subst hv1
  rw [fr_poR, show fr 1 = _ from q1, show fr 2 = _ from q2]
  clear q1 q2
  conv => arg 2; whnf
  go_wp2_with fail
  refine Met.intro (hS _ _ ?_)
  exact ⟨hW, Fr.of _ rfl ⟨rfl, rfl, trivial⟩⟩

set_option maxRecDepth 100000 in
set_option maxHeartbeats 1000000 in
theorem po6 (w0 : World) (gb : Nat) (vt vr : Value) (ts : List ByteArray) (rs : List (List ByteArray)) (h : QH w0 gb vt vr ts rs) (hg : SGood ts) : T3 Try.prog (fun a w => (Below w0.heap.size w0 w) ∧ Fr 146 [(1, vr), (2, .pointer (some ⟨gb, 0, none⟩))] a) (sel [1, 1, 1, 0] poR) (fun a w => (Below w0.heap.size w0 w) ∧ Fr 146 [(1, vr), (2, .pointer (some ⟨gb, 0, none⟩)), (7, .slice none 0 0)] a) No 9 (fun a w => ∃ v4 : Value, Fr 146 [(4, v4), (5, .int .i64 (playE ts rs))] a ∧ w.ownsRow w0.heap.size 9 1 v4 (playL ts rs).length (cellsOf encSt (playL ts rs)) ∧ Below w0.heap.size w0 w) := by
  refine T3.leaf ?_
  rintro Q JS JX JT K hS hK hX hE hT hR a w ⟨hW, ⟨fr, rfl, q1, q2, _⟩⟩
  obtain ⟨p1, c1, hv1⟩ := h.s.t.shape
  obtain ⟨p2, c2, hv2⟩ := h.r.shape
  subst hv2
  subst hv1
  rw [fr_poR, show fr 1 = _ from q1, show fr 2 = _ from q2]
  clear q1 q2
  conv => arg 2; whnf
  go_wp2_with fail
  refine Met.intro (hS _ _ ?_)
  exact ⟨hW, Fr.of _ rfl ⟨rfl, rfl, rfl, trivial⟩⟩

theorem brk_len {ts : List ByteArray} (hg : SGood ts) : (bracketL (ts.length : Int)).length ≤ 32 ∧ (left0 ts.length).length = (bracketL (ts.length : Int)).length := by
  refine ⟨(bracketL_length ts.length (by have := hg.n2; omega) (by have := hg.n20; omega)).2.2, by unfold left0; rw [List.length_map]⟩
theorem left0_max : ∀ n : Fin 21, (left0 n.val).all (fun x => decide (x ≤ 100)) = true := by decide +kernel
/-- The bracket, and the world behind it. -/
structure QB (w0 w1 : World) (ts : List ByteArray) (vb : Value) : Prop where
  bel : Below w0.heap.size w0 w1
  row : Row w1 0 1 vb (bracketL (ts.length : Int)).length ((bracketL (ts.length : Int)).map (.int .i64))
set_option maxRecDepth 100000 in
set_option maxHeartbeats 1000000 in
theorem po7 (w0 : World) (gb : Nat) (vt vr : Value) (ts : List ByteArray) (rs : List (List ByteArray)) (h : QH w0 gb vt vr ts rs) (hg : SGood ts) : T3 Try.prog (fun a w => (Below w0.heap.size w0 w) ∧ Fr 146 [(1, vr), (2, .pointer (some ⟨gb, 0, none⟩)), (7, .slice none 0 0)] a) (sel [1, 1, 1, 1, 0, 0] poR) (fun a w => ∃ (w1 : World) (vb : Value), QB w0 w1 ts vb ∧ ((0 ≤ (0 : Int) ∧ (0 : Int) ≤ (bracketL (ts.length : Int)).length) ∧ ∃ (v7 : Value), (OwI w1 v7 ((left0 ts.length).take (0 : Int).toNat) w) ∧ Fr 146 [(1, vr), (2, .pointer (some ⟨gb, 0, none⟩)), (7, v7), (35, vb), (36, .int .i64 (bracketL (ts.length : Int)).length), (37, .int .i64 0)] a)) No 9 (fun a w => ∃ v4 : Value, Fr 146 [(4, v4), (5, .int .i64 (playE ts rs))] a ∧ w.ownsRow w0.heap.size 9 1 v4 (playL ts rs).length (cellsOf encSt (playL ts rs)) ∧ Below w0.heap.size w0 w) := by
  refine T3.leaf ?_
  rintro Q JS JX JT K hS hK hX hE hT hR a w ⟨hW, ⟨fr, rfl, q1, q2, q7, _⟩⟩
  have n20 := hg.n20
  have xc := h.cell hW
  have HB := Lib.hid hW
  have HP := Lib.hid (fun w => bracket_any ts.length w (by omega))
  obtain ⟨p1, c1, hv1⟩ := h.s.t.shape
  obtain ⟨p2, c2, hv2⟩ := h.r.shape
  subst hv2
  subst hv1
  clear hW
  rw [fr_poR, show fr 1 = _ from q1, show fr 2 = _ from q2, show fr 7 = _ from q7]
  clear q1 q2 q7
  conv => arg 2; whnf
  go_wp2_with fail
  refine (HP.out _).mono ?_
  rintro e w1 ⟨g, cap, rfl, ho, hb⟩
  have HX := Lib.hid (HB.out.trans (hb.mono HB.out.size))
  have HO := Lib.hid ((Row.of_owns ho).mono (Nat.zero_le _))
  clear hb ho
  generalize hBL : bracketL (ts.length : Int) = BB at *
  go_wp2_with fail
  refine Met.intro (hS _ _ ?_)
  subst hBL
  exact ⟨w1, _, ⟨HX.out, HO.out⟩, ⟨by omega, by omega⟩, _, ⟨Below.refl _ _, World.ownsRow_nil _ _ _ _⟩, Fr.of _ rfl ⟨rfl, rfl, rfl, rfl, rfl, rfl, trivial⟩⟩

set_option maxRecDepth 100000 in
set_option maxHeartbeats 1000000 in
theorem po9 (w0 : World) (gb : Nat) (vt vr : Value) (ts : List ByteArray) (rs : List (List ByteArray)) (h : QH w0 gb vt vr ts rs) (hg : SGood ts) (w1 : World) (vb : Value) (qb : QB w0 w1 ts vb) (k : Int) : T3 Try.prog (fun a w => ∃ (v7 : Value), (0 ≤ k ∧ k < (bracketL (ts.length : Int)).length) ∧ (OwI w1 v7 ((left0 ts.length).take (k : Int).toNat) w) ∧ Fr 146 [(1, vr), (2, .pointer (some ⟨gb, 0, none⟩)), (7, v7), (35, vb), (36, .int .i64 (bracketL (ts.length : Int)).length), (37, .int .i64 k)] a) (sel [1, 1, 1, 1, 0, 1, 4, 4, 1, 1, 0, 4, 0] poR) (fun a w => ∃ (v7 : Value), (0 ≤ k ∧ k < (bracketL (ts.length : Int)).length) ∧ (OwI w1 v7 ((left0 ts.length).take (k : Int).toNat) w) ∧ Fr 146 [(1, vr), (2, .pointer (some ⟨gb, 0, none⟩)), (7, v7), (9, .int .i64 (geti (bracketL (ts.length : Int)) k)), (35, vb), (36, .int .i64 (bracketL (ts.length : Int)).length), (37, .int .i64 k)] a) No 9 (fun a w => ∃ v4 : Value, Fr 146 [(4, v4), (5, .int .i64 (playE ts rs))] a ∧ w.ownsRow w0.heap.size 9 1 v4 (playL ts rs).length (cellsOf encSt (playL ts rs)) ∧ Below w0.heap.size w0 w) := by
  refine T3.leaf ?_
  rintro Q JS JX JT K hS hK hX hE hT hR a w ⟨v7, hpre, hW, ⟨fr, rfl, q1, q2, q7, q35, q36, q37, _⟩⟩
  have hpp := Lib.hid hpre
  obtain ⟨hk0, hk1⟩ := hpre
  have HW := Lib.hid hW
  have hb32 := (brk_len hg).1
  obtain ⟨_, hcs⟩ := (qb.row.below hW.bel).ints
  rcases hcs with ⟨rfl, h0⟩ | ⟨bz, off, cap, rfl, _, hbz, hnc, hcm, hcell⟩
  · omega
  have t0 := hcell k hk0 hk1
  obtain ⟨p1, c1, hv1⟩ := h.s.t.shape
  obtain ⟨p2, c2, hv2⟩ := h.r.shape
  subst hv2
  subst hv1
  clear hcell hW
  rw [fr_poR, show fr 1 = _ from q1, show fr 2 = _ from q2, show fr 7 = _ from q7, show fr 35 = _ from q35, show fr 36 = _ from q36, show fr 37 = _ from q37]
  clear q1 q2 q7 q35 q36 q37
  conv => arg 2; whnf
  go_wp2_with fail
  refine Met.intro (hS _ _ ?_)
  exact ⟨v7, hpp.out, HW.out, Fr.of _ rfl ⟨rfl, rfl, rfl, rfl, rfl, rfl, rfl, trivial⟩⟩

set_option maxRecDepth 100000 in
set_option maxHeartbeats 1000000 in
theorem po10 (w0 : World) (gb : Nat) (vt vr : Value) (ts : List ByteArray) (rs : List (List ByteArray)) (h : QH w0 gb vt vr ts rs) (hg : SGood ts) (w1 : World) (vb : Value) (qb : QB w0 w1 ts vb) (k : Int) : T3 Try.prog (fun a w => ∃ (v7 : Value), (0 ≤ k ∧ k < (bracketL (ts.length : Int)).length) ∧ (OwI w1 v7 ((left0 ts.length).take (k : Int).toNat) w) ∧ Fr 146 [(1, vr), (2, .pointer (some ⟨gb, 0, none⟩)), (7, v7), (9, .int .i64 (geti (bracketL (ts.length : Int)) k)), (35, vb), (36, .int .i64 (bracketL (ts.length : Int)).length), (37, .int .i64 k)] a) (sel [1, 1, 1, 1, 0, 1, 4, 4, 1, 1, 0, 4, 1] poR) (fun a w => ∃ (v7 : Value), (0 ≤ k ∧ k < (bracketL (ts.length : Int)).length) ∧ (OwI w1 v7 ((left0 ts.length).take ((k + 1) : Int).toNat) w) ∧ Fr 146 [(1, vr), (2, .pointer (some ⟨gb, 0, none⟩)), (7, v7), (35, vb), (36, .int .i64 (bracketL (ts.length : Int)).length), (37, .int .i64 k)] a) No 9 (fun a w => ∃ v4 : Value, Fr 146 [(4, v4), (5, .int .i64 (playE ts rs))] a ∧ w.ownsRow w0.heap.size 9 1 v4 (playL ts rs).length (cellsOf encSt (playL ts rs)) ∧ Below w0.heap.size w0 w) := by
  refine T3.leaf ?_
  rintro Q JS JX JT K hS hK hX hE hT hR a w ⟨v7, hpre, hW, ⟨fr, rfl, q1, q2, q7, q9, q35, q36, q37, _⟩⟩
  have hpp := Lib.hid hpre
  obtain ⟨hk0, hk1⟩ := hpre
  obtain ⟨hb32, hbl⟩ := brk_len hg
  have Hs := Lib.hid (left0_succ ts.length k hk0 hk1)
  have hgl : ((left0 ts.length).take k.toNat).length ≤ 1000 := by rw [List.length_take]; omega
  have hxb : ∀ x ∈ bracketL (ts.length : Int), -100 ≤ x ∧ x ≤ 1000 := fun x hx => by
    have h1 : x - 1 ∈ left0 ts.length := by unfold left0; exact List.mem_map.2 ⟨x, hx, rfl⟩
    have hd := left0_all ⟨ts.length, by have := hg.n20; omega⟩ hg.n2
    simp only [Bool.and_eq_true, List.all_eq_true, decide_eq_true_eq] at hd
    have := hd.1 _ h1
    have h32 := left0_max ⟨ts.length, by have := hg.n20; omega⟩
    simp only [List.all_eq_true, decide_eq_true_eq] at h32
    have := h32 _ h1
    omega
  have hx := hxb _ (geti_mem hk0 hk1)
  have HA := Lib.hid (fun w' v' ho g => OwI.app (w' := w') (v' := v') (x := geti (bracketL (ts.length : Int)) k - 1) (hW.alloc (.cells #[.int .i64 (geti (bracketL (ts.length : Int)) k - 1)] 3)) ho g)
  have hO := hW.own
  obtain ⟨p7, c7, hv7⟩ := (Row.of_owns hW.own).shape
  subst hv7
  have hEL := el_intP
  have hbs := hW.bel.size
  obtain ⟨p1, c1, hv1⟩ := h.s.t.shape
  obtain ⟨p2, c2, hv2⟩ := h.r.shape
  subst hv2
  subst hv1
  clear hxb hbl hW
  generalize geti (bracketL (ts.length : Int)) k = x at *
  generalize (left0 ts.length).take (k + 1).toNat = T1 at *
  generalize (left0 ts.length).take k.toNat = T0 at *
  rw [fr_poR, show fr 1 = _ from q1, show fr 2 = _ from q2, show fr 7 = _ from q7, show fr 9 = _ from q9, show fr 35 = _ from q35, show fr 36 = _ from q36, show fr 37 = _ from q37]
  clear q1 q2 q7 q9 q35 q36 q37
  conv => arg 2; whnf
  go_wp2_with (at_builtin; refine app_law rfl _ _ _ rfl hEL (hO.alloc _) rfl [.int .i64 (x - 1)] rfl rfl (cells_new w #[_] _) (by simp [Value.oneCell']) (by omega) (by simp; omega) ?_; intro v' w3 hown3 hgr)
  refine Met.intro (hS _ _ ?_)
  refine ⟨v', hpp.out, ?_, Fr.of _ rfl ⟨rfl, rfl, rfl, rfl, rfl, rfl, trivial⟩⟩
  rw [Hs.out]
  exact HA.out w3 v' hown3 hgr

set_option maxRecDepth 100000 in
set_option maxHeartbeats 1000000 in
theorem pob0 (w0 : World) (gb : Nat) (vt vr : Value) (ts : List ByteArray) (rs : List (List ByteArray)) (h : QH w0 gb vt vr ts rs) (hg : SGood ts) (w1 : World) (vb : Value) (qb : QB w0 w1 ts vb) (k : Int) : T3 Try.prog (fun a w => ∃ (v7 : Value), (0 ≤ k ∧ k < (bracketL (ts.length : Int)).length) ∧ (OwI w1 v7 ((left0 ts.length).take (k : Int).toNat) w) ∧ Fr 146 [(1, vr), (2, .pointer (some ⟨gb, 0, none⟩)), (7, v7), (35, vb), (36, .int .i64 (bracketL (ts.length : Int)).length), (37, .int .i64 k)] a) (sel [1, 1, 1, 1, 0, 1, 4, 4, 1, 1, 0] poR) (fun a w => ∃ (v7 : Value), (0 ≤ k ∧ k < (bracketL (ts.length : Int)).length) ∧ (OwI w1 v7 ((left0 ts.length).take ((k + 1) : Int).toNat) w) ∧ Fr 146 [(1, vr), (2, .pointer (some ⟨gb, 0, none⟩)), (7, v7), (35, vb), (36, .int .i64 (bracketL (ts.length : Int)).length), (37, .int .i64 k)] a) No 100 (fun a w => ∃ v4 : Value, Fr 146 [(4, v4), (5, .int .i64 (playE ts rs))] a ∧ w.ownsRow w0.heap.size 9 1 v4 (playL ts rs).length (cellsOf encSt (playL ts rs)) ∧ Below w0.heap.size w0 w) := by
  refine T3.block (id' := 1) (c := (sel [1, 1, 1, 1, 0, 1, 4, 4, 1, 1, 0, 4] poR)) (by decide) ?_
  exact T3.seq (s := (sel [1, 1, 1, 1, 0, 1, 4, 4, 1, 1, 0, 4, 0] poR)) (c := (sel [1, 1, 1, 1, 0, 1, 4, 4, 1, 1, 0, 4, 1] poR)) ((po9 w0 gb vt vr ts rs h hg w1 vb qb k).noX) ((po10 w0 gb vt vr ts rs h hg w1 vb qb k).noX)

def po0I (w0 : World) (gb : Nat) (vt vr : Value) (ts : List ByteArray) (rs : List (List ByteArray)) (h : QH w0 gb vt vr ts rs) (hg : SGood ts) (w1 : World) (vb : Value) (qb : QB w0 w1 ts vb) (k : Int) (a : Act) (w : World) : Prop := (0 ≤ k ∧ k ≤ (bracketL (ts.length : Int)).length) ∧ ∃ (v7 : Value), (OwI w1 v7 ((left0 ts.length).take (k : Int).toNat) w) ∧ Fr 146 [(1, vr), (2, .pointer (some ⟨gb, 0, none⟩)), (7, v7), (35, vb), (36, .int .i64 (bracketL (ts.length : Int)).length), (37, .int .i64 k)] a
set_option maxRecDepth 100000 in
set_option maxHeartbeats 1000000 in
theorem po0t (w0 : World) (gb : Nat) (vt vr : Value) (ts : List ByteArray) (rs : List (List ByteArray)) (h : QH w0 gb vt vr ts rs) (hg : SGood ts) (w1 : World) (vb : Value) (qb : QB w0 w1 ts vb) (k : Int) : T3 Try.prog (fun a w => po0I w0 gb vt vr ts rs h hg w1 vb qb k a w) (sel [1, 1, 1, 1, 0, 1, 4, 4, 0] poR) (fun a w => ∃ q, Fr 146 ((38, .bool q) :: [(37, .int .i64 k)]) a ∧ ((q = true ↔ k < (bracketL (ts.length : Int)).length) ∧ po0I w0 gb vt vr ts rs h hg w1 vb qb k a w)) No 9 (fun a w => ∃ v4 : Value, Fr 146 [(4, v4), (5, .int .i64 (playE ts rs))] a ∧ w.ownsRow w0.heap.size 9 1 v4 (playL ts rs).length (cellsOf encSt (playL ts rs)) ∧ Below w0.heap.size w0 w) := by
  refine T3.leaf ?_
  rintro Q JS JX JT K hS hK hX hE hT hR a w ⟨hk, v7, hW, ⟨fr, rfl, q1, q2, q7, q35, q36, q37, _⟩⟩
  have hb32 := (brk_len hg).1
  rw [fr_poR, show fr 1 = _ from q1, show fr 2 = _ from q2, show fr 7 = _ from q7, show fr 35 = _ from q35, show fr 36 = _ from q36, show fr 37 = _ from q37]
  clear q1 q2 q7 q35 q36 q37
  conv => arg 2; whnf
  by_cases hlt : k < (bracketL (ts.length : Int)).length
  · go_wp2_with fail
    refine Met.intro (hS _ _ ?_)
    exact ⟨true, Fr.of _ rfl ⟨rfl, rfl, trivial⟩, ⟨fun _ => hlt, fun _ => rfl⟩, hk, v7, hW, Fr.of _ rfl ⟨rfl, rfl, rfl, rfl, rfl, rfl, trivial⟩⟩
  · have hpb : decide (k < ((bracketL (ts.length : Int)).length : Int)) = false := by simp; omega
    go_wp2_with fail
    refine Met.intro (hS _ _ ?_)
    exact ⟨false, Fr.of _ rfl ⟨rfl, rfl, trivial⟩, ⟨(fun h => by cases h), fun h => absurd h (by omega)⟩, hk, v7, hW, Fr.of _ rfl ⟨rfl, rfl, rfl, rfl, rfl, rfl, trivial⟩⟩

set_option maxRecDepth 100000 in
set_option maxHeartbeats 1000000 in
theorem po0n (w0 : World) (gb : Nat) (vt vr : Value) (ts : List ByteArray) (rs : List (List ByteArray)) (h : QH w0 gb vt vr ts rs) (hg : SGood ts) (w1 : World) (vb : Value) (qb : QB w0 w1 ts vb) (k : Int) : T3 Try.prog (fun a w => (0 ≤ k ∧ k < (bracketL (ts.length : Int)).length) ∧ ∃ (v7 : Value), (OwI w1 v7 ((left0 ts.length).take ((k + 1) : Int).toNat) w) ∧ Fr 146 [(1, vr), (2, .pointer (some ⟨gb, 0, none⟩)), (7, v7), (35, vb), (36, .int .i64 (bracketL (ts.length : Int)).length), (37, .int .i64 k)] a) (sel [1, 1, 1, 1, 0, 1, 4, 4, 1, 1, 1] poR) (fun a w => po0I w0 gb vt vr ts rs h hg w1 vb qb (k + 1) a w) No 9 (fun a w => ∃ v4 : Value, Fr 146 [(4, v4), (5, .int .i64 (playE ts rs))] a ∧ w.ownsRow w0.heap.size 9 1 v4 (playL ts rs).length (cellsOf encSt (playL ts rs)) ∧ Below w0.heap.size w0 w) := by
  refine T3.leaf ?_
  rintro Q JS JX JT K hS hK hX hE hT hR a w ⟨hk, v7, hW, ⟨fr, rfl, q1, q2, q7, q35, q36, q37, _⟩⟩
  obtain ⟨hk0, hk1⟩ := hk
  have hb32 := (brk_len hg).1
  rw [fr_poR, show fr 1 = _ from q1, show fr 2 = _ from q2, show fr 7 = _ from q7, show fr 35 = _ from q35, show fr 36 = _ from q36, show fr 37 = _ from q37]
  clear q1 q2 q7 q35 q36 q37
  conv => arg 2; whnf
  go_wp2_with fail
  refine Met.intro (hS _ _ ?_)
  exact ⟨⟨by omega, by omega⟩, v7, hW, Fr.of _ rfl ⟨rfl, rfl, rfl, rfl, rfl, rfl, trivial⟩⟩

set_option maxRecDepth 100000 in
set_option maxHeartbeats 1000000 in
theorem po0loop (w0 : World) (gb : Nat) (vt vr : Value) (ts : List ByteArray) (rs : List (List ByteArray)) (h : QH w0 gb vt vr ts rs) (hg : SGood ts) (w1 : World) (vb : Value) (qb : QB w0 w1 ts vb) : T3 Try.prog (fun a w => po0I w0 gb vt vr ts rs h hg w1 vb qb 0 a w) (sel [1, 1, 1, 1, 0, 1] poR) (fun a w => ∃ (v7 : Value), (OwI w1 v7 (left0 ts.length) w) ∧ Fr 146 [(1, vr), (2, .pointer (some ⟨gb, 0, none⟩)), (7, v7)] a) No 9 (fun a w => ∃ v4 : Value, Fr 146 [(4, v4), (5, .int .i64 (playE ts rs))] a ∧ w.ownsRow w0.heap.size 9 1 v4 (playL ts rs).length (cellsOf encSt (playL ts rs)) ∧ Below w0.heap.size w0 w) := by
  refine T3.loop (c := (sel [1, 1, 1, 1, 0, 1, 4, 4] poR)) (fun ng_ a w => ∃ k : Int, (ng_ : Int) = (bracketL (ts.length : Int)).length - k ∧ po0I w0 gb vt vr ts rs h hg w1 vb qb k a w) (fun a w h => ⟨((bracketL (ts.length : Int)).length : Int).toNat, 0, by have := h.1.2; omega, h⟩) (fun ng_ => T3.ex fun k => T3.pure fun hng_ => ?_)
  refine T3.seq (s := (sel [1, 1, 1, 1, 0, 1, 4, 4, 0] poR)) (c := (sel [1, 1, 1, 1, 0, 1, 4, 4, 1] poR)) ((po0t w0 gb vt vr ts rs h hg w1 vb qb k).noX) ?_
  refine T3.seq (s := (sel [1, 1, 1, 1, 0, 1, 4, 4, 1, 0] poR)) (c := (sel [1, 1, 1, 1, 0, 1, 4, 4, 1, 1] poR)) (S := fun a w => (0 ≤ k ∧ k < (bracketL (ts.length : Int)).length) ∧ ∃ (v7 : Value), (OwI w1 v7 ((left0 ts.length).take (k : Int).toNat) w) ∧ Fr 146 [(1, vr), (2, .pointer (some ⟨gb, 0, none⟩)), (7, v7), (35, vb), (36, .int .i64 (bracketL (ts.length : Int)).length), (37, .int .i64 k)] a) ?_ (T3.seq (s := (sel [1, 1, 1, 1, 0, 1, 4, 4, 1, 1, 0] poR)) (c := (sel [1, 1, 1, 1, 0, 1, 4, 4, 1, 1, 1] poR)) (S := fun a w => (0 ≤ k ∧ k < (bracketL (ts.length : Int)).length) ∧ ∃ (v7 : Value), (OwI w1 v7 ((left0 ts.length).take ((k + 1) : Int).toNat) w) ∧ Fr 146 [(1, vr), (2, .pointer (some ⟨gb, 0, none⟩)), (7, v7), (35, vb), (36, .int .i64 (bracketL (ts.length : Int)).length), (37, .int .i64 k)] a) (T3.noX (T3.mono (R' := fun a w => (0 ≤ k ∧ k < (bracketL (ts.length : Int)).length) ∧ ∃ (v7 : Value), (OwI w1 v7 ((left0 ts.length).take (k : Int).toNat) w) ∧ Fr 146 [(1, vr), (2, .pointer (some ⟨gb, 0, none⟩)), (7, v7), (35, vb), (36, .int .i64 (bracketL (ts.length : Int)).length), (37, .int .i64 k)] a) (S' := fun a w => (0 ≤ k ∧ k < (bracketL (ts.length : Int)).length) ∧ ∃ (v7 : Value), (OwI w1 v7 ((left0 ts.length).take ((k + 1) : Int).toNat) w) ∧ Fr 146 [(1, vr), (2, .pointer (some ⟨gb, 0, none⟩)), (7, v7), (35, vb), (36, .int .i64 (bracketL (ts.length : Int)).length), (37, .int .i64 k)] a) (pob0 w0 gb vt vr ts rs h hg w1 vb qb k) (fun a w ⟨hk, v7, hI⟩ => ⟨v7, hk, hI⟩) (fun a w ⟨v7, hk, hI⟩ => ⟨hk, v7, hI⟩) (fun _ _ q => q) (fun _ _ q => q))) ?_)
  · refine T3.cond (o := .tmp 38) (x := .skip) (y := .exit 0) (fun a w => k < (bracketL (ts.length : Int)).length ∧ po0I w0 gb vt vr ts rs h hg w1 vb qb k a w) (fun a w => ¬ k < (bracketL (ts.length : Int)).length ∧ po0I w0 gb vt vr ts rs h hg w1 vb qb k a w) ?_ (T3.skip ?_) (T3.exit ?_)
    · rintro a w ⟨q, hF, hq, hI⟩
      have he := hF.eval 38 (by decide) (v := .bool q) (by simp)
      cases q
      · exact .inr ⟨he, (fun h => by have := hq.2 h; cases this), hI⟩
      · exact .inl ⟨he, hq.1 rfl, hI⟩
    · rintro a w ⟨hlt, hk, hI⟩
      exact ⟨⟨hk.1, hlt⟩, hI⟩
    · rintro a w ⟨hlt, hk, hI⟩
      obtain rfl : k = (bracketL (ts.length : Int)).length := by omega
      obtain ⟨v7, hW, hF⟩ := hI
      have hbl := brk_len hg
      rw [show ((bracketL (ts.length : Int)).length : Int).toNat = (bracketL (ts.length : Int)).length by omega, ← hbl.2, List.take_length] at hW
      exact ⟨v7, hW, hF.sub (by simp)⟩
  · intro a w hx
    have hk := hx.1
    exact (((po0n w0 gb vt vr ts rs h hg w1 vb qb k).noX).post (fun a w q => ⟨ng_ - 1, by omega, k + 1, by omega, q⟩)) a w hx
end Go.Proofs.Ytkdimgghljklmaa
