/-
  Contracts and lemmas towards the statement, of several parts; each part says ahead of it what it holds and under which conditions.
-/
import Derived.Test.YtkdimgghljklmaaMg6
/-
  Finals: a bracket that is played, the reference's PlayOf: the games of a round. Conditions: strings are no longer than Go's; at most 1000 seeds, rounds and names.
-/
set_option linter.unusedVariables false
namespace Go.Proofs.Ytkdimgghljklmaa
open Go.RowKit Go.Bw
set_option maxRecDepth 100000 in
set_option maxHeartbeats 1000000 in
theorem name_ref (w : World) (gb : Nat) (vt : Value) (ts : List ByteArray) (a : Int) (h : Row w 0 1 vt ts.length (cellsOf encSt ts)) (hc : w.cell? ⟨gb, 0, none⟩ = some vt) (h0 : 0 ≤ a) :
    Calls Try.prog 64 #[.int .i64 a, .pointer (some ⟨gb, 0, none⟩)] w fun e w' => e = .returned (.string (nmP ts a)) ∧ w = w' := by
  obtain ⟨_, hcs⟩ := h.els encSt_length (by decide)
  obtain ⟨p1, c1, hv1⟩ := h.shape
  by_cases hlt : a < ts.length
  · have HN := Lib.hid (show nmP ts a = geta ts a by unfold nmP; rw [if_pos hlt])
    rcases hcs with ⟨rfl, e0⟩ | ⟨bz, off, cap, rfl, _, hbz, hnc, hcm, hcell⟩
    · omega
    have t0 := hcell a h0 hlt 0 _ rfl
    rw [Nat.mul_one, Nat.add_zero] at t0
    clear hcell h hv1
    go_enter Try.func64, Try.ntmps64
    go_wp2_with fail
    go_ret
    exact ⟨by rw [HN.out]; rfl, rfl⟩
  · have HN := Lib.hid (show nmP ts a = ByteArray.empty by unfold nmP; rw [if_neg hlt])
    subst hv1
    have hb : decide ((ts.length : Int) ≤ a) = true := by simp; omega
    clear hcs h
    go_enter Try.func64, Try.ntmps64
    go_wp2_with fail
    go_ret
    exact ⟨by rw [HN.out]; rfl, rfl⟩
/-- The world at the start of a round's games. -/
structure QI (w0 : World) (gb : Nat) (vt : Value) (ts : List ByteArray) (w1 : World) (v7 v13 : Value) (left : List Int) (ws : List ByteArray) (N : Nat) : Prop where
  bel : Below w0.heap.size w0 w1
  g : SGood ts
  l : LOk ts left N
  pn : PyN ws N
  lf : Row w1 0 1 v7 left.length (left.map (.int .i64))
  nr : Row w1 0 1 v13 ws.length (cellsOf encSt ws)
  wm : ws.length ≤ 1000
  hi : ∀ x ∈ left, x ≤ 100
set_option maxRecDepth 100000 in
set_option maxHeartbeats 1000000 in
theorem pq20 (w0 : World) (gb : Nat) (vt vr : Value) (ts : List ByteArray) (rs : List (List ByteArray)) (h : QH w0 gb vt vr ts rs) (w1 : World) (v7 v11 v13 : Value) (left : List Int) (ws : List ByteArray) (N : Nat) (hqi : QI w0 gb vt ts w1 v7 v13 left ws N) (kx : Int) : T3 Try.prog (fun a w => (IsW w1 w) ∧ Fr 146 [(1, vr), (2, .pointer (some ⟨gb, 0, none⟩)), (7, v7), (10, .func (.func 64) #[] #[.pointer (some ⟨gb, 0, none⟩)]), (11, v11), (13, v13), (14, .slice none 0 0), (15, .slice none 0 0), (48, vr), (49, .int .i64 rs.length), (50, .int .i64 kx)] a) (sel [1, 1, 1, 1, 1, 1, 1, 0, 1, 4, 4, 1, 1, 0, 4, 1, 1, 1, 0, 0] poR) (fun a w => (0 ≤ (0 : Int) ∧ (0 : Int) ≤ ws.length) ∧ ∃ (vN vL : Value), (NoErr (gErr ts left ws) 0) ∧ (Pr2 w1 w 3 vN vL (winL ts left ws 0) (losL ts left ws 0)) ∧ Fr 146 [(1, vr), (2, .pointer (some ⟨gb, 0, none⟩)), (7, v7), (10, .func (.func 64) #[] #[.pointer (some ⟨gb, 0, none⟩)]), (11, v11), (14, vN), (15, vL), (48, vr), (49, .int .i64 rs.length), (50, .int .i64 kx), (60, v13), (61, .int .i64 ws.length), (62, .int .i64 0)] a) No 9 (fun a w => ∃ v4 : Value, Fr 146 [(4, v4), (5, .int .i64 (playE ts rs))] a ∧ w.ownsRow w0.heap.size 9 1 v4 (playL ts rs).length (cellsOf encSt (playL ts rs)) ∧ Below w0.heap.size w0 w) := by
  refine T3.leaf ?_
  rintro Q JS JX JT K hS hK hX hE hT hR a w ⟨hW, ⟨fr, rfl, q1, q2, q7, q10, q11, q13, q14, q15, q48, q49, q50, _⟩⟩
  obtain rfl : w = w1 := hW
  have hp := Lib.hid (show Pr2 w w 3 (.slice none 0 0) (.slice none 0 0) (winL ts left ws 0) (losL ts left ws 0) from ⟨Below.refl _ _, World.ownsRow_nil _ _ _ _, World.ownsRow_nil _ _ _ _, fun k hk => by cases hk⟩)
  obtain ⟨pr, cr, hvr⟩ := h.r.shape
  subst hvr
  obtain ⟨p7, c7, hv7⟩ := hqi.lf.shape
  subst hv7
  obtain ⟨p13, c13, hv13⟩ := hqi.nr.shape
  subst hv13
  rw [fr_poR, show fr 1 = _ from q1, show fr 2 = _ from q2, show fr 7 = _ from q7, show fr 10 = _ from q10, show fr 11 = _ from q11, show fr 13 = _ from q13, show fr 14 = _ from q14, show fr 15 = _ from q15, show fr 48 = _ from q48, show fr 49 = _ from q49, show fr 50 = _ from q50]
  clear q1 q2 q7 q10 q11 q13 q14 q15 q48 q49 q50
  conv => arg 2; whnf
  go_wp2_with fail
  refine Met.intro (hS _ _ ?_)
  exact ⟨⟨by omega, by omega⟩, _, _, NoErr.zero _, hp.out, Fr.of _ rfl ⟨rfl, rfl, rfl, rfl, rfl, rfl, rfl, rfl, rfl, rfl, rfl, rfl, rfl, trivial⟩⟩

set_option maxRecDepth 100000 in
set_option maxHeartbeats 1000000 in
theorem pq22 (w0 : World) (gb : Nat) (vt vr : Value) (ts : List ByteArray) (rs : List (List ByteArray)) (h : QH w0 gb vt vr ts rs) (w1 : World) (v7 v11 v13 : Value) (left : List Int) (ws : List ByteArray) (N : Nat) (hqi : QI w0 gb vt ts w1 v7 v13 left ws N) (kx : Int) (j : Int) : T3 Try.prog (fun a w => ∃ (vN vL : Value), ((0 ≤ j ∧ j < ws.length) ∧ NoErr (gErr ts left ws) j) ∧ (Pr2 w1 w 3 vN vL (winL ts left ws j) (losL ts left ws j)) ∧ Fr 146 [(1, vr), (2, .pointer (some ⟨gb, 0, none⟩)), (7, v7), (10, .func (.func 64) #[] #[.pointer (some ⟨gb, 0, none⟩)]), (11, v11), (14, vN), (15, vL), (48, vr), (49, .int .i64 rs.length), (50, .int .i64 kx), (60, v13), (61, .int .i64 ws.length), (62, .int .i64 j)] a) (sel [1, 1, 1, 1, 1, 1, 1, 0, 1, 4, 4, 1, 1, 0, 4, 1, 1, 1, 0, 1, 4, 4, 1, 1, 0, 4, 0] poR) (fun a w => ∃ (vN vL : Value), ((0 ≤ j ∧ j < ws.length) ∧ NoErr (gErr ts left ws) j) ∧ (Pr2 w1 w 3 vN vL (winL ts left ws j) (losL ts left ws j)) ∧ Fr 146 [(1, vr), (2, .pointer (some ⟨gb, 0, none⟩)), (7, v7), (10, .func (.func 64) #[] #[.pointer (some ⟨gb, 0, none⟩)]), (11, v11), (14, vN), (15, vL), (16, .int .i64 j), (17, .string (geta ws j)), (48, vr), (49, .int .i64 rs.length), (50, .int .i64 kx), (60, v13), (61, .int .i64 ws.length), (62, .int .i64 j)] a) No 9 (fun a w => ∃ v4 : Value, Fr 146 [(4, v4), (5, .int .i64 (playE ts rs))] a ∧ w.ownsRow w0.heap.size 9 1 v4 (playL ts rs).length (cellsOf encSt (playL ts rs)) ∧ Below w0.heap.size w0 w) := by
  refine T3.leaf ?_
  rintro Q JS JX JT K hS hK hX hE hT hR a w ⟨vN, vL, hpre, hW, ⟨fr, rfl, q1, q2, q7, q10, q11, q14, q15, q48, q49, q50, q60, q61, q62, _⟩⟩
  have hpp := Lib.hid hpre
  obtain ⟨⟨hj0, hj1⟩, _⟩ := hpre
  have wm := hqi.wm
  have HW := Lib.hid hW
  obtain ⟨pN, cN, hvN⟩ := (Row.of_owns hW.rw).shape
  subst hvN
  obtain ⟨pL, cL, hvL⟩ := (Row.of_owns hW.rl).shape
  subst hvL
  obtain ⟨pr, cr, hvr⟩ := h.r.shape
  subst hvr
  obtain ⟨p7, c7, hv7⟩ := hqi.lf.shape
  subst hv7
  obtain ⟨_, hcs⟩ := (hqi.nr.below hW.bel).els encSt_length (by decide)
  rcases hcs with ⟨rfl, e0⟩ | ⟨bz, off, cap, rfl, _, hbz, hnc, hcm, hcell⟩
  · omega
  have t0 := hcell j hj0 hj1 0 _ rfl
  rw [Nat.mul_one, Nat.add_zero] at t0
  clear hcell hW
  rw [fr_poR, show fr 1 = _ from q1, show fr 2 = _ from q2, show fr 7 = _ from q7, show fr 10 = _ from q10, show fr 11 = _ from q11, show fr 14 = _ from q14, show fr 15 = _ from q15, show fr 48 = _ from q48, show fr 49 = _ from q49, show fr 50 = _ from q50, show fr 60 = _ from q60, show fr 61 = _ from q61, show fr 62 = _ from q62]
  clear q1 q2 q7 q10 q11 q14 q15 q48 q49 q50 q60 q61 q62
  conv => arg 2; whnf
  go_wp2_with fail
  refine Met.intro (hS _ _ ?_)
  exact ⟨_, _, hpp.out, HW.out, Fr.of _ rfl ⟨rfl, rfl, rfl, rfl, rfl, rfl, rfl, rfl, rfl, rfl, rfl, rfl, rfl, rfl, rfl, trivial⟩⟩

set_option maxRecDepth 100000 in
set_option maxHeartbeats 1000000 in
theorem pq23 (w0 : World) (gb : Nat) (vt vr : Value) (ts : List ByteArray) (rs : List (List ByteArray)) (h : QH w0 gb vt vr ts rs) (w1 : World) (v7 v11 v13 : Value) (left : List Int) (ws : List ByteArray) (N : Nat) (hqi : QI w0 gb vt ts w1 v7 v13 left ws N) (kx : Int) (j : Int) (vN vL : Value) : T3 Try.prog (fun a w => ((0 ≤ j ∧ j < ws.length) ∧ NoErr (gErr ts left ws) j) ∧ (Pr2 w1 w 3 vN vL (winL ts left ws j) (losL ts left ws j)) ∧ Fr 146 [(1, vr), (2, .pointer (some ⟨gb, 0, none⟩)), (7, v7), (10, .func (.func 64) #[] #[.pointer (some ⟨gb, 0, none⟩)]), (11, v11), (14, vN), (15, vL), (16, .int .i64 j), (17, .string (geta ws j)), (48, vr), (49, .int .i64 rs.length), (50, .int .i64 kx), (60, v13), (61, .int .i64 ws.length), (62, .int .i64 j)] a) (sel [1, 1, 1, 1, 1, 1, 1, 0, 1, 4, 4, 1, 1, 0, 4, 1, 1, 1, 0, 1, 4, 4, 1, 1, 0, 4, 1, 0] poR) (fun a w => ((0 ≤ j ∧ j < ws.length) ∧ NoErr (gErr ts left ws) j) ∧ (Pr2 w1 w 3 vN vL (winL ts left ws j) (losL ts left ws j)) ∧ Fr 146 [(1, vr), (2, .pointer (some ⟨gb, 0, none⟩)), (7, v7), (10, .func (.func 64) #[] #[.pointer (some ⟨gb, 0, none⟩)]), (11, v11), (14, vN), (15, vL), (16, .int .i64 j), (17, .string (geta ws j)), (18, .int .i64 (gA left j)), (19, .int .i64 (gB left j)), (48, vr), (49, .int .i64 rs.length), (50, .int .i64 kx), (60, v13), (61, .int .i64 ws.length), (62, .int .i64 j)] a) No 9 (fun a w => ∃ v4 : Value, Fr 146 [(4, v4), (5, .int .i64 (playE ts rs))] a ∧ w.ownsRow w0.heap.size 9 1 v4 (playL ts rs).length (cellsOf encSt (playL ts rs)) ∧ Below w0.heap.size w0 w) := by
  refine T3.leafN ?_
  rintro JS hS a w ⟨hpre, hW, ⟨fr, rfl, q1, q2, q7, q10, q11, q14, q15, q16, q17, q48, q49, q50, q60, q61, q62, _⟩⟩
  have hpp := Lib.hid hpre
  obtain ⟨⟨hj0, hj1⟩, _⟩ := hpre
  have hl := hqi.l.len
  have n16 := hqi.l.n16
  have hlo := hqi.pn.lo
  have wm := hqi.wm
  have hlen : 2 * j + 1 < left.length := by omega
  have hl32 : left.length ≤ 32 := by omega
  have HW := Lib.hid (hW.below (below_drewN (Below.refl _ _) 1))
  have hrow := hqi.lf.below hW.bel
  obtain ⟨pN, cN, hvN⟩ := (Row.of_owns hW.rw).shape
  subst hvN
  obtain ⟨pL, cL, hvL⟩ := (Row.of_owns hW.rl).shape
  subst hvL
  obtain ⟨pr, cr, hvr⟩ := h.r.shape
  subst hvr
  obtain ⟨p13, c13, hv13⟩ := hqi.nr.shape
  subst hv13
  obtain ⟨_, hcs⟩ := hrow.ints
  rcases hcs with ⟨rfl, e0⟩ | ⟨bz, off, cap, rfl, _, hbz, hnc, hcm, hcell⟩
  · omega
  have t0 := hcell (2 * j) (by omega) (by omega)
  have t1 := hcell (2 * j + 1) (by omega) (by omega)
  have hw0 : IntKind.i64.wrap (2 * j) = 2 * j := IntWalk.i64_in _ (by omega)
  have hw1 : IntKind.i64.wrap (2 * j + 1) = 2 * j + 1 := IntWalk.i64_in _ (by omega)
  have hb0 : 0 ≤ 2 * j ∧ 2 * j < left.length := by omega
  have hb1 : 0 ≤ 2 * j + 1 ∧ 2 * j + 1 < left.length := by omega
  clear hcell hW hrow hl hlo
  change w.cell? ⟨bz, off + (2 * j).toNat, none⟩ = some (.int .i64 (gA left j)) at t0
  change w.cell? ⟨bz, off + (2 * j + 1).toNat, none⟩ = some (.int .i64 (gB left j)) at t1
  generalize gA left j = ga at *
  generalize gB left j = gb' at *
  rw [fr_poR, show fr 1 = _ from q1, show fr 2 = _ from q2, show fr 7 = _ from q7, show fr 10 = _ from q10, show fr 11 = _ from q11, show fr 14 = _ from q14, show fr 15 = _ from q15, show fr 16 = _ from q16, show fr 17 = _ from q17, show fr 48 = _ from q48, show fr 49 = _ from q49, show fr 50 = _ from q50, show fr 60 = _ from q60, show fr 61 = _ from q61, show fr 62 = _ from q62]
  clear q1 q2 q7 q10 q11 q14 q15 q16 q17 q48 q49 q50 q60 q61 q62
  conv => arg 2; whnf
  refine wp_region_mix (none) [(true, 0), (true, 1), (true, 2), (true, 3), (true, 4), (true, 5), (true, 6), (true, 7), (true, 8), (true, 9), (true, 10), (true, 11), (true, 12)] (by kernel_rfl) (by kernel_rfl) (by intro c a d v w h; cases d <;> exact h) ?_
  simp only [pickFlat, List.filterMap_cons, List.filterMap_nil, List.getElem?_cons_succ, List.getElem?_cons_zero, Option.map_some]
  have A4 := wof_at (w₁ := w.drew) (row := none) (a := ⟨bz, off + (2 * j).toNat, none⟩) t0 (by simp)
  have A10 := wof_at (w₁ := w.drew) (row := none) (a := ⟨bz, off + (2 * j + 1).toNat, none⟩) t1 (by simp)
  refine flat_hide (fun W hH hC hN hE => ?_)
  iterate 13 (refine hH.out _ _ _ _ (fun K hK => ?_); go_simp; refine hK _ ?_; clear hK K)
  refine hE.out _ _ ?_
  clear hH hC hN hE W
  show JS _ _
  refine hS _ _ ?_
  exact ⟨hpp.out, HW.out, Fr.of _ rfl ⟨rfl, rfl, rfl, rfl, rfl, rfl, rfl, rfl, rfl, rfl, rfl, rfl, rfl, rfl, rfl, rfl, rfl, trivial⟩⟩

set_option maxRecDepth 100000 in
set_option maxHeartbeats 1000000 in
theorem pq25 (w0 : World) (gb : Nat) (vt vr : Value) (ts : List ByteArray) (rs : List (List ByteArray)) (h : QH w0 gb vt vr ts rs) (w1 : World) (v7 v11 v13 : Value) (left : List Int) (ws : List ByteArray) (N : Nat) (hqi : QI w0 gb vt ts w1 v7 v13 left ws N) (kx : Int) (j : Int) (vN vL : Value) : T3 Try.prog (fun a w => (Pr2 w1 w 3 vN vL (winL ts left ws j) (losL ts left ws j)) ∧ Fr 146 [(1, vr), (2, .pointer (some ⟨gb, 0, none⟩)), (7, v7), (10, .func (.func 64) #[] #[.pointer (some ⟨gb, 0, none⟩)]), (11, v11), (14, vN), (15, vL), (16, .int .i64 j), (17, .string (geta ws j)), (18, .int .i64 (gA left j)), (19, .int .i64 (gB left j)), (48, vr), (49, .int .i64 rs.length), (50, .int .i64 kx), (60, v13), (61, .int .i64 ws.length), (62, .int .i64 j)] a) (sel [1, 1, 1, 1, 1, 1, 1, 0, 1, 4, 4, 1, 1, 0, 4, 1, 1, 1, 0, 1, 4, 4, 1, 1, 0, 4, 1, 1, 4, 0] poR) (fun a w => ∃ q, Fr 146 ((78, .bool q) :: [(1, vr), (2, .pointer (some ⟨gb, 0, none⟩)), (7, v7), (10, .func (.func 64) #[] #[.pointer (some ⟨gb, 0, none⟩)]), (11, v11), (14, vN), (15, vL), (16, .int .i64 j), (17, .string (geta ws j)), (18, .int .i64 (gA left j)), (19, .int .i64 (gB left j)), (48, vr), (49, .int .i64 rs.length), (50, .int .i64 kx), (60, v13), (61, .int .i64 ws.length), (62, .int .i64 j)]) a ∧ ((q = decide (geta ws j = ByteArray.empty)) ∧ Pr2 w1 w 3 vN vL (winL ts left ws j) (losL ts left ws j))) No 9 (fun a w => ∃ v4 : Value, Fr 146 [(4, v4), (5, .int .i64 (playE ts rs))] a ∧ w.ownsRow w0.heap.size 9 1 v4 (playL ts rs).length (cellsOf encSt (playL ts rs)) ∧ Below w0.heap.size w0 w) := by
  refine T3.leaf ?_
  rintro Q JS JX JT K hS hK hX hE hT hR a w ⟨hW, ⟨fr, rfl, q1, q2, q7, q10, q11, q14, q15, q16, q17, q18, q19, q48, q49, q50, q60, q61, q62, _⟩⟩
  have HW := Lib.hid hW
  obtain ⟨pN, cN, hvN⟩ := (Row.of_owns hW.rw).shape
  subst hvN
  obtain ⟨pL, cL, hvL⟩ := (Row.of_owns hW.rl).shape
  subst hvL
  obtain ⟨pr, cr, hvr⟩ := h.r.shape
  subst hvr
  obtain ⟨p7, c7, hv7⟩ := hqi.lf.shape
  subst hv7
  obtain ⟨p13, c13, hv13⟩ := hqi.nr.shape
  subst hv13
  clear hW
  generalize winL ts left ws j = WW at *
  generalize losL ts left ws j = LL at *
  generalize geta ws j = x at *
  by_cases hx : x = ByteArray.empty
  · subst hx
    rw [fr_poR, show fr 1 = _ from q1, show fr 2 = _ from q2, show fr 7 = _ from q7, show fr 10 = _ from q10, show fr 11 = _ from q11, show fr 14 = _ from q14, show fr 15 = _ from q15, show fr 16 = _ from q16, show fr 17 = _ from q17, show fr 18 = _ from q18, show fr 19 = _ from q19, show fr 48 = _ from q48, show fr 49 = _ from q49, show fr 50 = _ from q50, show fr 60 = _ from q60, show fr 61 = _ from q61, show fr 62 = _ from q62]
    clear q1 q2 q7 q10 q11 q14 q15 q16 q17 q18 q19 q48 q49 q50 q60 q61 q62
    conv => arg 2; whnf
    go_wp2_with fail
    refine Met.intro (hS _ _ ?_)
    exact ⟨_, Fr.of _ rfl ⟨rfl, rfl, rfl, rfl, rfl, rfl, rfl, rfl, rfl, rfl, rfl, rfl, rfl, rfl, rfl, rfl, rfl, rfl, trivial⟩, by first | rfl | decide, HW.out⟩
  · have hx1 : (x.toList == ByteArray.empty.toList) = false := toList_ne hx
    have hx2 : x.toList.isEmpty = false := by
      have hh := hx1
      rw [show ByteArray.empty.toList = [] by rw [ByteArray.toList_eq]; rfl] at hh
      cases hl : x.toList with
      | nil => rw [hl] at hh; exact absurd hh (by decide)
      | cons a b => rfl
    have hx3 : decide (x = ByteArray.empty) = false := by simp [hx]
    have HX := Lib.hid hx3
    clear hx hx3
    rw [fr_poR, show fr 1 = _ from q1, show fr 2 = _ from q2, show fr 7 = _ from q7, show fr 10 = _ from q10, show fr 11 = _ from q11, show fr 14 = _ from q14, show fr 15 = _ from q15, show fr 16 = _ from q16, show fr 17 = _ from q17, show fr 18 = _ from q18, show fr 19 = _ from q19, show fr 48 = _ from q48, show fr 49 = _ from q49, show fr 50 = _ from q50, show fr 60 = _ from q60, show fr 61 = _ from q61, show fr 62 = _ from q62]
    clear q1 q2 q7 q10 q11 q14 q15 q16 q17 q18 q19 q48 q49 q50 q60 q61 q62
    conv => arg 2; whnf
    go_wp2_with fail
    refine Met.intro (hS _ _ ?_)
    exact ⟨_, Fr.of _ rfl ⟨rfl, rfl, rfl, rfl, rfl, rfl, rfl, rfl, rfl, rfl, rfl, rfl, rfl, rfl, rfl, rfl, rfl, rfl, trivial⟩, HX.out.symm, HW.out⟩

set_option maxRecDepth 100000 in
set_option maxHeartbeats 1000000 in
theorem pq26 (w0 : World) (gb : Nat) (vt vr : Value) (ts : List ByteArray) (rs : List (List ByteArray)) (h : QH w0 gb vt vr ts rs) (w1 : World) (v7 v11 v13 : Value) (left : List Int) (ws : List ByteArray) (N : Nat) (hqi : QI w0 gb vt ts w1 v7 v13 left ws N) (kx : Int) (j : Int) (vN vL : Value) : T3 Try.prog (fun a w => (Pr2 w1 w 3 vN vL (winL ts left ws j) (losL ts left ws j)) ∧ Fr 146 [(1, vr), (2, .pointer (some ⟨gb, 0, none⟩)), (7, v7), (10, .func (.func 64) #[] #[.pointer (some ⟨gb, 0, none⟩)]), (11, v11), (14, vN), (15, vL), (16, .int .i64 j), (17, .string (geta ws j)), (18, .int .i64 (gA left j)), (19, .int .i64 (gB left j)), (48, vr), (49, .int .i64 rs.length), (50, .int .i64 kx), (60, v13), (61, .int .i64 ws.length), (62, .int .i64 j)] a) (sel [1, 1, 1, 1, 1, 1, 1, 0, 1, 4, 4, 1, 1, 0, 4, 1, 1, 1, 0, 1, 4, 4, 1, 1, 0, 4, 1, 1, 4, 1, 2, 0] poR) (fun a w => (Below w1.heap.size w1 w) ∧ Fr 146 [(4, .slice none 0 0), (5, .int .i64 8)] a) No 9 (fun a w => ∃ v4 : Value, Fr 146 [(4, v4), (5, .int .i64 (playE ts rs))] a ∧ w.ownsRow w0.heap.size 9 1 v4 (playL ts rs).length (cellsOf encSt (playL ts rs)) ∧ Below w0.heap.size w0 w) := by
  refine T3.leaf ?_
  rintro Q JS JX JT K hS hK hX hE hT hR a w ⟨hW, ⟨fr, rfl, q1, q2, q7, q10, q11, q14, q15, q16, q17, q18, q19, q48, q49, q50, q60, q61, q62, _⟩⟩
  have HW := Lib.hid hW
  obtain ⟨pN, cN, hvN⟩ := (Row.of_owns hW.rw).shape
  subst hvN
  obtain ⟨pL, cL, hvL⟩ := (Row.of_owns hW.rl).shape
  subst hvL
  obtain ⟨pr, cr, hvr⟩ := h.r.shape
  subst hvr
  obtain ⟨p7, c7, hv7⟩ := hqi.lf.shape
  subst hv7
  obtain ⟨p13, c13, hv13⟩ := hqi.nr.shape
  subst hv13
  clear hW
  generalize winL ts left ws j = WW at *
  generalize losL ts left ws j = LL at *
  rw [fr_poR, show fr 1 = _ from q1, show fr 2 = _ from q2, show fr 7 = _ from q7, show fr 10 = _ from q10, show fr 11 = _ from q11, show fr 14 = _ from q14, show fr 15 = _ from q15, show fr 16 = _ from q16, show fr 17 = _ from q17, show fr 18 = _ from q18, show fr 19 = _ from q19, show fr 48 = _ from q48, show fr 49 = _ from q49, show fr 50 = _ from q50, show fr 60 = _ from q60, show fr 61 = _ from q61, show fr 62 = _ from q62]
  clear q1 q2 q7 q10 q11 q14 q15 q16 q17 q18 q19 q48 q49 q50 q60 q61 q62
  conv => arg 2; whnf
  go_wp2_with fail
  refine Met.intro (hS _ _ ?_)
  exact ⟨HW.out.bel, Fr.of _ rfl ⟨rfl, rfl, trivial⟩⟩

set_option maxRecDepth 100000 in
set_option maxHeartbeats 1000000 in
theorem pq27 (w0 : World) (gb : Nat) (vt vr : Value) (ts : List ByteArray) (rs : List (List ByteArray)) (h : QH w0 gb vt vr ts rs) (w1 : World) (v7 v11 v13 : Value) (left : List Int) (ws : List ByteArray) (N : Nat) (hqi : QI w0 gb vt ts w1 v7 v13 left ws N) (kx : Int) (j : Int) (vN vL : Value) (h0 : 0 ≤ gA left j) : T3 Try.prog (fun a w => (Pr2 w1 w 3 vN vL (winL ts left ws j) (losL ts left ws j)) ∧ Fr 146 [(1, vr), (2, .pointer (some ⟨gb, 0, none⟩)), (7, v7), (10, .func (.func 64) #[] #[.pointer (some ⟨gb, 0, none⟩)]), (11, v11), (14, vN), (15, vL), (16, .int .i64 j), (17, .string (geta ws j)), (18, .int .i64 (gA left j)), (19, .int .i64 (gB left j)), (48, vr), (49, .int .i64 rs.length), (50, .int .i64 kx), (60, v13), (61, .int .i64 ws.length), (62, .int .i64 j)] a) (sel [1, 1, 1, 1, 1, 1, 1, 0, 1, 4, 4, 1, 1, 0, 4, 1, 1, 1, 0, 1, 4, 4, 1, 1, 0, 4, 1, 1, 4, 1, 3, 0] poR) (fun a w => ∃ q, Fr 146 ((81, .bool q) :: [(1, vr), (2, .pointer (some ⟨gb, 0, none⟩)), (7, v7), (10, .func (.func 64) #[] #[.pointer (some ⟨gb, 0, none⟩)]), (11, v11), (14, vN), (15, vL), (16, .int .i64 j), (17, .string (geta ws j)), (18, .int .i64 (gA left j)), (19, .int .i64 (gB left j)), (48, vr), (49, .int .i64 rs.length), (50, .int .i64 kx), (60, v13), (61, .int .i64 ws.length), (62, .int .i64 j)]) a ∧ ((q = ((geta ws j).toList == (nmP ts (gA left j)).toList)) ∧ Pr2 w1 w 3 vN vL (winL ts left ws j) (losL ts left ws j))) No 9 (fun a w => ∃ v4 : Value, Fr 146 [(4, v4), (5, .int .i64 (playE ts rs))] a ∧ w.ownsRow w0.heap.size 9 1 v4 (playL ts rs).length (cellsOf encSt (playL ts rs)) ∧ Below w0.heap.size w0 w) := by
  refine T3.leaf ?_
  rintro Q JS JX JT K hS hK hX hE hT hR a w ⟨hW, ⟨fr, rfl, q1, q2, q7, q10, q11, q14, q15, q16, q17, q18, q19, q48, q49, q50, q60, q61, q62, _⟩⟩
  have hbw := hqi.bel.trans (hW.bel.mono hqi.bel.size)
  have HP := Lib.hid (name_ref w gb vt ts (gA left j) (h.s.t.below hbw) (h.cell hbw) h0)
  have HW := Lib.hid hW
  obtain ⟨pN, cN, hvN⟩ := (Row.of_owns hW.rw).shape
  subst hvN
  obtain ⟨pL, cL, hvL⟩ := (Row.of_owns hW.rl).shape
  subst hvL
  obtain ⟨pr, cr, hvr⟩ := h.r.shape
  subst hvr
  obtain ⟨p7, c7, hv7⟩ := hqi.lf.shape
  subst hv7
  obtain ⟨p13, c13, hv13⟩ := hqi.nr.shape
  subst hv13
  clear hW
  generalize winL ts left ws j = WW at *
  generalize losL ts left ws j = LL at *
  generalize nmP ts (gA left j) = nx at *
  generalize geta ws j = x at *
  generalize hq : (x.toList == nx.toList) = q at *
  rw [fr_poR, show fr 1 = _ from q1, show fr 2 = _ from q2, show fr 7 = _ from q7, show fr 10 = _ from q10, show fr 11 = _ from q11, show fr 14 = _ from q14, show fr 15 = _ from q15, show fr 16 = _ from q16, show fr 17 = _ from q17, show fr 18 = _ from q18, show fr 19 = _ from q19, show fr 48 = _ from q48, show fr 49 = _ from q49, show fr 50 = _ from q50, show fr 60 = _ from q60, show fr 61 = _ from q61, show fr 62 = _ from q62]
  clear q1 q2 q7 q10 q11 q14 q15 q16 q17 q18 q19 q48 q49 q50 q60 q61 q62
  conv => arg 2; whnf
  go_wp2_with fail
  refine HP.out.mono ?_
  rintro e w2 ⟨rfl, rfl⟩
  go_wp2_with fail
  refine Met.intro (hS _ _ ?_)
  exact ⟨_, Fr.of _ rfl ⟨rfl, rfl, rfl, rfl, rfl, rfl, rfl, rfl, rfl, rfl, rfl, rfl, rfl, rfl, rfl, rfl, rfl, rfl, trivial⟩, rfl, HW.out⟩

set_option maxRecDepth 100000 in
set_option maxHeartbeats 1000000 in
theorem pq29 (w0 : World) (gb : Nat) (vt vr : Value) (ts : List ByteArray) (rs : List (List ByteArray)) (h : QH w0 gb vt vr ts rs) (w1 : World) (v7 v11 v13 : Value) (left : List Int) (ws : List ByteArray) (N : Nat) (hqi : QI w0 gb vt ts w1 v7 v13 left ws N) (kx : Int) (j : Int) (vN vL : Value) (h0 : 0 ≤ gB left j) : T3 Try.prog (fun a w => (Pr2 w1 w 3 vN vL (winL ts left ws j) (losL ts left ws j)) ∧ Fr 146 [(1, vr), (2, .pointer (some ⟨gb, 0, none⟩)), (7, v7), (10, .func (.func 64) #[] #[.pointer (some ⟨gb, 0, none⟩)]), (11, v11), (14, vN), (15, vL), (16, .int .i64 j), (17, .string (geta ws j)), (18, .int .i64 (gA left j)), (19, .int .i64 (gB left j)), (48, vr), (49, .int .i64 rs.length), (50, .int .i64 kx), (60, v13), (61, .int .i64 ws.length), (62, .int .i64 j)] a) (sel [1, 1, 1, 1, 1, 1, 1, 0, 1, 4, 4, 1, 1, 0, 4, 1, 1, 1, 0, 1, 4, 4, 1, 1, 0, 4, 1, 1, 4, 1, 3, 1, 3, 0] poR) (fun a w => ∃ q, Fr 146 ((95, .bool q) :: [(1, vr), (2, .pointer (some ⟨gb, 0, none⟩)), (7, v7), (10, .func (.func 64) #[] #[.pointer (some ⟨gb, 0, none⟩)]), (11, v11), (14, vN), (15, vL), (16, .int .i64 j), (17, .string (geta ws j)), (18, .int .i64 (gA left j)), (19, .int .i64 (gB left j)), (48, vr), (49, .int .i64 rs.length), (50, .int .i64 kx), (60, v13), (61, .int .i64 ws.length), (62, .int .i64 j)]) a ∧ ((q = ((geta ws j).toList == (nmP ts (gB left j)).toList)) ∧ Pr2 w1 w 3 vN vL (winL ts left ws j) (losL ts left ws j))) No 9 (fun a w => ∃ v4 : Value, Fr 146 [(4, v4), (5, .int .i64 (playE ts rs))] a ∧ w.ownsRow w0.heap.size 9 1 v4 (playL ts rs).length (cellsOf encSt (playL ts rs)) ∧ Below w0.heap.size w0 w) := by
  refine T3.leaf ?_
  rintro Q JS JX JT K hS hK hX hE hT hR a w ⟨hW, ⟨fr, rfl, q1, q2, q7, q10, q11, q14, q15, q16, q17, q18, q19, q48, q49, q50, q60, q61, q62, _⟩⟩
  have hbw := hqi.bel.trans (hW.bel.mono hqi.bel.size)
  have HP := Lib.hid (name_ref w gb vt ts (gB left j) (h.s.t.below hbw) (h.cell hbw) h0)
  have HW := Lib.hid hW
  obtain ⟨pN, cN, hvN⟩ := (Row.of_owns hW.rw).shape
  subst hvN
  obtain ⟨pL, cL, hvL⟩ := (Row.of_owns hW.rl).shape
  subst hvL
  obtain ⟨pr, cr, hvr⟩ := h.r.shape
  subst hvr
  obtain ⟨p7, c7, hv7⟩ := hqi.lf.shape
  subst hv7
  obtain ⟨p13, c13, hv13⟩ := hqi.nr.shape
  subst hv13
  clear hW
  generalize winL ts left ws j = WW at *
  generalize losL ts left ws j = LL at *
  generalize nmP ts (gB left j) = nx at *
  generalize geta ws j = x at *
  generalize hq : (x.toList == nx.toList) = q at *
  rw [fr_poR, show fr 1 = _ from q1, show fr 2 = _ from q2, show fr 7 = _ from q7, show fr 10 = _ from q10, show fr 11 = _ from q11, show fr 14 = _ from q14, show fr 15 = _ from q15, show fr 16 = _ from q16, show fr 17 = _ from q17, show fr 18 = _ from q18, show fr 19 = _ from q19, show fr 48 = _ from q48, show fr 49 = _ from q49, show fr 50 = _ from q50, show fr 60 = _ from q60, show fr 61 = _ from q61, show fr 62 = _ from q62]
  clear q1 q2 q7 q10 q11 q14 q15 q16 q17 q18 q19 q48 q49 q50 q60 q61 q62
  conv => arg 2; whnf
  go_wp2_with fail
  refine HP.out.mono ?_
  rintro e w2 ⟨rfl, rfl⟩
  go_wp2_with fail
  refine Met.intro (hS _ _ ?_)
  exact ⟨_, Fr.of _ rfl ⟨rfl, rfl, rfl, rfl, rfl, rfl, rfl, rfl, rfl, rfl, rfl, rfl, rfl, rfl, rfl, rfl, rfl, rfl, trivial⟩, rfl, HW.out⟩

set_option maxRecDepth 100000 in
set_option maxHeartbeats 1000000 in
theorem pq28 (w0 : World) (gb : Nat) (vt vr : Value) (ts : List ByteArray) (rs : List (List ByteArray)) (h : QH w0 gb vt vr ts rs) (w1 : World) (v7 v11 v13 : Value) (left : List Int) (ws : List ByteArray) (N : Nat) (hqi : QI w0 gb vt ts w1 v7 v13 left ws N) (kx : Int) (j : Int) (vN vL : Value) (hj : 0 ≤ j ∧ j < ws.length) (W1 : gWin ts left ws j = gA left j) (L1 : gLos ts left ws j = gB left j) : T3 Try.prog (fun a w => (Pr2 w1 w 3 vN vL (winL ts left ws j) (losL ts left ws j)) ∧ Fr 146 [(1, vr), (2, .pointer (some ⟨gb, 0, none⟩)), (7, v7), (10, .func (.func 64) #[] #[.pointer (some ⟨gb, 0, none⟩)]), (11, v11), (14, vN), (15, vL), (16, .int .i64 j), (17, .string (geta ws j)), (18, .int .i64 (gA left j)), (19, .int .i64 (gB left j)), (48, vr), (49, .int .i64 rs.length), (50, .int .i64 kx), (60, v13), (61, .int .i64 ws.length), (62, .int .i64 j)] a) (sel [1, 1, 1, 1, 1, 1, 1, 0, 1, 4, 4, 1, 1, 0, 4, 1, 1, 1, 0, 1, 4, 4, 1, 1, 0, 4, 1, 1, 4, 1, 3, 1, 2] poR) (fun a w => ∃ (vN vL : Value), (Pr2 w1 w 3 vN vL (winL ts left ws (j + 1)) (losL ts left ws (j + 1))) ∧ Fr 146 [(1, vr), (2, .pointer (some ⟨gb, 0, none⟩)), (7, v7), (10, .func (.func 64) #[] #[.pointer (some ⟨gb, 0, none⟩)]), (11, v11), (14, vN), (15, vL), (48, vr), (49, .int .i64 rs.length), (50, .int .i64 kx), (60, v13), (61, .int .i64 ws.length), (62, .int .i64 j)] a) No 9 (fun a w => ∃ v4 : Value, Fr 146 [(4, v4), (5, .int .i64 (playE ts rs))] a ∧ w.ownsRow w0.heap.size 9 1 v4 (playL ts rs).length (cellsOf encSt (playL ts rs)) ∧ Below w0.heap.size w0 w) := by
  refine T3.leaf ?_
  rintro Q JS JX JT K hS hK hX hE hT hR a w ⟨hW, ⟨fr, rfl, q1, q2, q7, q10, q11, q14, q15, q16, q17, q18, q19, q48, q49, q50, q60, q61, q62, _⟩⟩
  have wm := hqi.wm
  have HWS := Lib.hid (show winL ts left ws (j + 1) = winL ts left ws j ++ [gA left j] by rw [winL_succ _ _ _ _ hj.1, W1])
  have HLS := Lib.hid (show losL ts left ws (j + 1) = losL ts left ws j ++ [gB left j] by rw [losL_succ _ _ _ _ hj.1, L1])
  have hl1 : (winL ts left ws j).length ≤ 1000 := by simp [winL]; omega
  have hl2 : (losL ts left ws j).length ≤ 1000 := by simp [losL]; omega
  have hEL := el_intP
  have hP := hW
  clear W1 L1 hW
  obtain ⟨pN, cN, hvN⟩ := (Row.of_owns hP.rw).shape
  subst hvN
  obtain ⟨pL, cL, hvL⟩ := (Row.of_owns hP.rl).shape
  subst hvL
  obtain ⟨pr, cr, hvr⟩ := h.r.shape
  subst hvr
  obtain ⟨p7, c7, hv7⟩ := hqi.lf.shape
  subst hv7
  obtain ⟨p13, c13, hv13⟩ := hqi.nr.shape
  subst hv13
  generalize winL ts left ws (j + 1) = WW1 at *
  generalize losL ts left ws (j + 1) = LL1 at *
  generalize winL ts left ws j = WW at *
  generalize losL ts left ws j = LL at *
  generalize gA left j = ga at *
  generalize gB left j = gb' at *
  rw [fr_poR, show fr 1 = _ from q1, show fr 2 = _ from q2, show fr 7 = _ from q7, show fr 10 = _ from q10, show fr 11 = _ from q11, show fr 14 = _ from q14, show fr 15 = _ from q15, show fr 16 = _ from q16, show fr 17 = _ from q17, show fr 18 = _ from q18, show fr 19 = _ from q19, show fr 48 = _ from q48, show fr 49 = _ from q49, show fr 50 = _ from q50, show fr 60 = _ from q60, show fr 61 = _ from q61, show fr 62 = _ from q62]
  clear q1 q2 q7 q10 q11 q14 q15 q16 q17 q18 q19 q48 q49 q50 q60 q61 q62
  conv => arg 2; whnf
  go_wp2_with first
    | (at_builtin; refine app_lawA rfl _ _ _ rfl hEL ((hP.alloc _).rw) rfl [.int .i64 ga] rfl rfl (cells_new w #[_] _) (by simp [Value.oneCell']) (by omega) ((hP.alloc _).bel.size) ?_; intro v3 w3 hown3 hgr3 hat3; have hQ3 := (hP.alloc _).appW hown3 hgr3 hat3; obtain ⟨pw3, cw3, hvw3⟩ := (Row.of_owns hQ3.rw).shape; subst hvw3)
    | (at_builtin; refine app_lawA rfl _ _ _ rfl hEL ((hQ3.alloc _).rl) rfl [.int .i64 gb'] rfl rfl (cells_new w3 #[_] _) (by simp [Value.oneCell']) (by omega) ((hQ3.alloc _).bel.size) ?_; intro v4 w4 hown4 hgr4 hat4; have hQ4 := (hQ3.alloc _).appL hown4 hgr4 hat4)
  refine Met.intro (hS _ _ ?_)
  refine ⟨_, _, ?_, Fr.of _ rfl ⟨rfl, rfl, rfl, rfl, rfl, rfl, rfl, rfl, rfl, rfl, rfl, rfl, rfl, trivial⟩⟩
  rw [HWS.out, HLS.out]
  rw [List.length_append, List.length_singleton] at hQ4
  exact hQ4

set_option maxRecDepth 100000 in
set_option maxHeartbeats 1000000 in
theorem pq30 (w0 : World) (gb : Nat) (vt vr : Value) (ts : List ByteArray) (rs : List (List ByteArray)) (h : QH w0 gb vt vr ts rs) (w1 : World) (v7 v11 v13 : Value) (left : List Int) (ws : List ByteArray) (N : Nat) (hqi : QI w0 gb vt ts w1 v7 v13 left ws N) (kx : Int) (j : Int) (vN vL : Value) (hj : 0 ≤ j ∧ j < ws.length) (W1 : gWin ts left ws j = gB left j) (L1 : gLos ts left ws j = gA left j) : T3 Try.prog (fun a w => (Pr2 w1 w 3 vN vL (winL ts left ws j) (losL ts left ws j)) ∧ Fr 146 [(1, vr), (2, .pointer (some ⟨gb, 0, none⟩)), (7, v7), (10, .func (.func 64) #[] #[.pointer (some ⟨gb, 0, none⟩)]), (11, v11), (14, vN), (15, vL), (16, .int .i64 j), (17, .string (geta ws j)), (18, .int .i64 (gA left j)), (19, .int .i64 (gB left j)), (48, vr), (49, .int .i64 rs.length), (50, .int .i64 kx), (60, v13), (61, .int .i64 ws.length), (62, .int .i64 j)] a) (sel [1, 1, 1, 1, 1, 1, 1, 0, 1, 4, 4, 1, 1, 0, 4, 1, 1, 1, 0, 1, 4, 4, 1, 1, 0, 4, 1, 1, 4, 1, 3, 1, 3, 1, 2] poR) (fun a w => ∃ (vN vL : Value), (Pr2 w1 w 3 vN vL (winL ts left ws (j + 1)) (losL ts left ws (j + 1))) ∧ Fr 146 [(1, vr), (2, .pointer (some ⟨gb, 0, none⟩)), (7, v7), (10, .func (.func 64) #[] #[.pointer (some ⟨gb, 0, none⟩)]), (11, v11), (14, vN), (15, vL), (48, vr), (49, .int .i64 rs.length), (50, .int .i64 kx), (60, v13), (61, .int .i64 ws.length), (62, .int .i64 j)] a) No 9 (fun a w => ∃ v4 : Value, Fr 146 [(4, v4), (5, .int .i64 (playE ts rs))] a ∧ w.ownsRow w0.heap.size 9 1 v4 (playL ts rs).length (cellsOf encSt (playL ts rs)) ∧ Below w0.heap.size w0 w) := by
  refine T3.leaf ?_
  rintro Q JS JX JT K hS hK hX hE hT hR a w ⟨hW, ⟨fr, rfl, q1, q2, q7, q10, q11, q14, q15, q16, q17, q18, q19, q48, q49, q50, q60, q61, q62, _⟩⟩
  have wm := hqi.wm
  have HWS := Lib.hid (show winL ts left ws (j + 1) = winL ts left ws j ++ [gB left j] by rw [winL_succ _ _ _ _ hj.1, W1])
  have HLS := Lib.hid (show losL ts left ws (j + 1) = losL ts left ws j ++ [gA left j] by rw [losL_succ _ _ _ _ hj.1, L1])
  have hl1 : (winL ts left ws j).length ≤ 1000 := by simp [winL]; omega
  have hl2 : (losL ts left ws j).length ≤ 1000 := by simp [losL]; omega
  have hEL := el_intP
  have hP := hW
  clear W1 L1 hW
  obtain ⟨pN, cN, hvN⟩ := (Row.of_owns hP.rw).shape
  subst hvN
  obtain ⟨pL, cL, hvL⟩ := (Row.of_owns hP.rl).shape
  subst hvL
  obtain ⟨pr, cr, hvr⟩ := h.r.shape
  subst hvr
  obtain ⟨p7, c7, hv7⟩ := hqi.lf.shape
  subst hv7
  obtain ⟨p13, c13, hv13⟩ := hqi.nr.shape
  subst hv13
  generalize winL ts left ws (j + 1) = WW1 at *
  generalize losL ts left ws (j + 1) = LL1 at *
  generalize winL ts left ws j = WW at *
  generalize losL ts left ws j = LL at *
  generalize gA left j = ga at *
  generalize gB left j = gb' at *
  rw [fr_poR, show fr 1 = _ from q1, show fr 2 = _ from q2, show fr 7 = _ from q7, show fr 10 = _ from q10, show fr 11 = _ from q11, show fr 14 = _ from q14, show fr 15 = _ from q15, show fr 16 = _ from q16, show fr 17 = _ from q17, show fr 18 = _ from q18, show fr 19 = _ from q19, show fr 48 = _ from q48, show fr 49 = _ from q49, show fr 50 = _ from q50, show fr 60 = _ from q60, show fr 61 = _ from q61, show fr 62 = _ from q62]
  clear q1 q2 q7 q10 q11 q14 q15 q16 q17 q18 q19 q48 q49 q50 q60 q61 q62
  conv => arg 2; whnf
  go_wp2_with first
    | (at_builtin; refine app_lawA rfl _ _ _ rfl hEL ((hP.alloc _).rw) rfl [.int .i64 gb'] rfl rfl (cells_new w #[_] _) (by simp [Value.oneCell']) (by omega) ((hP.alloc _).bel.size) ?_; intro v3 w3 hown3 hgr3 hat3; have hQ3 := (hP.alloc _).appW hown3 hgr3 hat3; obtain ⟨pw3, cw3, hvw3⟩ := (Row.of_owns hQ3.rw).shape; subst hvw3)
    | (at_builtin; refine app_lawA rfl _ _ _ rfl hEL ((hQ3.alloc _).rl) rfl [.int .i64 ga] rfl rfl (cells_new w3 #[_] _) (by simp [Value.oneCell']) (by omega) ((hQ3.alloc _).bel.size) ?_; intro v4 w4 hown4 hgr4 hat4; have hQ4 := (hQ3.alloc _).appL hown4 hgr4 hat4)
  refine Met.intro (hS _ _ ?_)
  refine ⟨_, _, ?_, Fr.of _ rfl ⟨rfl, rfl, rfl, rfl, rfl, rfl, rfl, rfl, rfl, rfl, rfl, rfl, rfl, trivial⟩⟩
  rw [HWS.out, HLS.out]
  rw [List.length_append, List.length_singleton] at hQ4
  exact hQ4

set_option maxRecDepth 100000 in
set_option maxHeartbeats 1000000 in
theorem pq24 (w0 : World) (gb : Nat) (vt vr : Value) (ts : List ByteArray) (rs : List (List ByteArray)) (h : QH w0 gb vt vr ts rs) (w1 : World) (v7 v11 v13 : Value) (left : List Int) (ws : List ByteArray) (N : Nat) (hqi : QI w0 gb vt ts w1 v7 v13 left ws N) (kx : Int) (j : Int) (vN vL : Value) : T3 Try.prog (fun a w => (Pr2 w1 w 3 vN vL (winL ts left ws j) (losL ts left ws j)) ∧ Fr 146 [(1, vr), (2, .pointer (some ⟨gb, 0, none⟩)), (7, v7), (10, .func (.func 64) #[] #[.pointer (some ⟨gb, 0, none⟩)]), (11, v11), (14, vN), (15, vL), (16, .int .i64 j), (17, .string (geta ws j)), (18, .int .i64 (gA left j)), (19, .int .i64 (gB left j)), (48, vr), (49, .int .i64 rs.length), (50, .int .i64 kx), (60, v13), (61, .int .i64 ws.length), (62, .int .i64 j)] a) (sel [1, 1, 1, 1, 1, 1, 1, 0, 1, 4, 4, 1, 1, 0, 4, 1, 1, 1, 0, 1, 4, 4, 1, 1, 0, 4, 1, 1, 4, 1, 3, 1, 3, 1, 3, 0] poR) (fun a w => (Below w1.heap.size w1 w) ∧ Fr 146 [(4, .slice none 0 0), (5, .int .i64 8)] a) No 9 (fun a w => ∃ v4 : Value, Fr 146 [(4, v4), (5, .int .i64 (playE ts rs))] a ∧ w.ownsRow w0.heap.size 9 1 v4 (playL ts rs).length (cellsOf encSt (playL ts rs)) ∧ Below w0.heap.size w0 w) := by
  refine T3.leaf ?_
  rintro Q JS JX JT K hS hK hX hE hT hR a w ⟨hW, ⟨fr, rfl, q1, q2, q7, q10, q11, q14, q15, q16, q17, q18, q19, q48, q49, q50, q60, q61, q62, _⟩⟩
  have HW := Lib.hid hW
  obtain ⟨pN, cN, hvN⟩ := (Row.of_owns hW.rw).shape
  subst hvN
  obtain ⟨pL, cL, hvL⟩ := (Row.of_owns hW.rl).shape
  subst hvL
  obtain ⟨pr, cr, hvr⟩ := h.r.shape
  subst hvr
  obtain ⟨p7, c7, hv7⟩ := hqi.lf.shape
  subst hv7
  obtain ⟨p13, c13, hv13⟩ := hqi.nr.shape
  subst hv13
  clear hW
  generalize winL ts left ws j = WW at *
  generalize losL ts left ws j = LL at *
  rw [fr_poR, show fr 1 = _ from q1, show fr 2 = _ from q2, show fr 7 = _ from q7, show fr 10 = _ from q10, show fr 11 = _ from q11, show fr 14 = _ from q14, show fr 15 = _ from q15, show fr 16 = _ from q16, show fr 17 = _ from q17, show fr 18 = _ from q18, show fr 19 = _ from q19, show fr 48 = _ from q48, show fr 49 = _ from q49, show fr 50 = _ from q50, show fr 60 = _ from q60, show fr 61 = _ from q61, show fr 62 = _ from q62]
  clear q1 q2 q7 q10 q11 q14 q15 q16 q17 q18 q19 q48 q49 q50 q60 q61 q62
  conv => arg 2; whnf
  go_wp2_with fail
  refine Met.intro (hS _ _ ?_)
  exact ⟨HW.out.bel, Fr.of _ rfl ⟨rfl, rfl, trivial⟩⟩

end Go.Proofs.Ytkdimgghljklmaa
/-
  Finals: a bracket that is played, the reference's PlayOf: a round. Conditions: strings are no longer than Go's; at most 1000 seeds, rounds and names.
-/
set_option linter.unusedVariables false
namespace Go.Proofs.Ytkdimgghljklmaa
open Go.RowKit Go.Bw
theorem t3_ofP {P : Program} {R S X T : Rel} {s : Code} {id : Nat} {p : Prop} (h : p → T3 P R s S X id T) : T3 P (fun a w => p ∧ R a w) s S X id T := fun a w q => h q.1 a w q.2
/-- Where a game has a fault the whole has it. -/
structure P8 (ts : List ByteArray) (rs : List (List ByteArray)) (left : List Int) (ws : List ByteArray) : Prop where
  h : rndE ts left ws = 8 → playE ts rs = 8
theorem ret8 {w0 w1 w : World} {ts : List ByteArray} {rs : List (List ByteArray)} {left : List Int} {ws : List ByteArray} {N : Nat} (hb1 : Below w0.heap.size w0 w1) (l : LOk ts left N) (pn : PyN ws N) (p8 : P8 ts rs left ws) {j : Int} (h0 : 0 ≤ j) (h1 : j < ws.length) (hn : NoErr (gErr ts left ws) j) (hb : badG ts (gA left j) (gB left j) (geta ws j)) {a : Act}
    (hF : Fr 146 [(4, .slice none 0 0), (5, .int .i64 8)] a) (hW : Below w1.heap.size w1 w) : ∃ v4 : Value, Fr 146 [(4, v4), (5, .int .i64 (playE ts rs))] a ∧ w.ownsRow w0.heap.size 9 1 v4 (playL ts rs).length (cellsOf encSt (playL ts rs)) ∧ Below w0.heap.size w0 w := by
  have e := p8.h (rnd_hit l pn h0 (by have := pn.lo; omega) hn hb)
  refine ⟨_, by rw [e]; exact hF, by rw [playL_bad (by rw [e]; decide)]; exact World.ownsRow_nil _ _ _ _, hb1.trans (hW.mono hb1.size)⟩
set_option maxRecDepth 100000 in
set_option maxHeartbeats 1000000 in
theorem pqb (w0 : World) (gb : Nat) (vt vr : Value) (ts : List ByteArray) (rs : List (List ByteArray)) (h : QH w0 gb vt vr ts rs) (w1 : World) (v7 v11 v13 : Value) (left : List Int) (ws : List ByteArray) (N : Nat) (hqi : QI w0 gb vt ts w1 v7 v13 left ws N) (kx : Int) (p8 : P8 ts rs left ws) (j : Int) : T3 Try.prog (fun a w => ∃ (vN vL : Value), ((0 ≤ j ∧ j < ws.length) ∧ NoErr (gErr ts left ws) j) ∧ (Pr2 w1 w 3 vN vL (winL ts left ws j) (losL ts left ws j)) ∧ Fr 146 [(1, vr), (2, .pointer (some ⟨gb, 0, none⟩)), (7, v7), (10, .func (.func 64) #[] #[.pointer (some ⟨gb, 0, none⟩)]), (11, v11), (14, vN), (15, vL), (48, vr), (49, .int .i64 rs.length), (50, .int .i64 kx), (60, v13), (61, .int .i64 ws.length), (62, .int .i64 j)] a) (sel [1, 1, 1, 1, 1, 1, 1, 0, 1, 4, 4, 1, 1, 0, 4, 1, 1, 1, 0, 1, 4, 4, 1, 1, 0] poR) (fun a w => ∃ (vN vL : Value), ((0 ≤ j ∧ j < ws.length) ∧ NoErr (gErr ts left ws) (j + 1)) ∧ (Pr2 w1 w 3 vN vL (winL ts left ws (j + 1)) (losL ts left ws (j + 1))) ∧ Fr 146 [(1, vr), (2, .pointer (some ⟨gb, 0, none⟩)), (7, v7), (10, .func (.func 64) #[] #[.pointer (some ⟨gb, 0, none⟩)]), (11, v11), (14, vN), (15, vL), (48, vr), (49, .int .i64 rs.length), (50, .int .i64 kx), (60, v13), (61, .int .i64 ws.length), (62, .int .i64 j)] a) No 100 (fun a w => ∃ v4 : Value, Fr 146 [(4, v4), (5, .int .i64 (playE ts rs))] a ∧ w.ownsRow w0.heap.size 9 1 v4 (playL ts rs).length (cellsOf encSt (playL ts rs)) ∧ Below w0.heap.size w0 w) := by
  refine T3.block (id' := 5) (c := (sel [1, 1, 1, 1, 1, 1, 1, 0, 1, 4, 4, 1, 1, 0, 4, 1, 1, 1, 0, 1, 4, 4, 1, 1, 0, 4] poR)) (by decide) ?_
  refine T3.seq (s := (sel [1, 1, 1, 1, 1, 1, 1, 0, 1, 4, 4, 1, 1, 0, 4, 1, 1, 1, 0, 1, 4, 4, 1, 1, 0, 4, 0] poR)) (c := (sel [1, 1, 1, 1, 1, 1, 1, 0, 1, 4, 4, 1, 1, 0, 4, 1, 1, 1, 0, 1, 4, 4, 1, 1, 0, 4, 1] poR)) ((pq22 w0 gb vt vr ts rs h w1 v7 v11 v13 left ws N hqi kx j).noX) (T3.ex fun vN => T3.ex fun vL => ?_)
  refine T3.seq (s := (sel [1, 1, 1, 1, 1, 1, 1, 0, 1, 4, 4, 1, 1, 0, 4, 1, 1, 1, 0, 1, 4, 4, 1, 1, 0, 4, 1, 0] poR)) (c := (sel [1, 1, 1, 1, 1, 1, 1, 0, 1, 4, 4, 1, 1, 0, 4, 1, 1, 1, 0, 1, 4, 4, 1, 1, 0, 4, 1, 1] poR)) ((pq23 w0 gb vt vr ts rs h w1 v7 v11 v13 left ws N hqi kx j vN vL).noX) ?_
  refine T3.pre (R := fun a w => ((0 ≤ j ∧ j < ws.length) ∧ NoErr (gErr ts left ws) j) ∧ (Pr2 w1 w 3 vN vL (winL ts left ws j) (losL ts left ws j)) ∧ Fr 146 [(1, vr), (2, .pointer (some ⟨gb, 0, none⟩)), (7, v7), (10, .func (.func 64) #[] #[.pointer (some ⟨gb, 0, none⟩)]), (11, v11), (14, vN), (15, vL), (16, .int .i64 j), (17, .string (geta ws j)), (18, .int .i64 (gA left j)), (19, .int .i64 (gB left j)), (48, vr), (49, .int .i64 rs.length), (50, .int .i64 kx), (60, v13), (61, .int .i64 ws.length), (62, .int .i64 j)] a) (T3.pure fun hp => ?_) (fun a w q => q)
  obtain ⟨hj, hn⟩ := hp
  have hlen := hqi.l.len
  have hNl := hqi.pn.lo
  have ha0 : 0 ≤ gA left j := hqi.l.a0 _ (by omega) (by omega)
  have hb0 : 0 ≤ gB left j := hqi.l.a0 _ (by omega) (by omega)
  refine T3.block (id' := 6) (c := (sel [1, 1, 1, 1, 1, 1, 1, 0, 1, 4, 4, 1, 1, 0, 4, 1, 1, 1, 0, 1, 4, 4, 1, 1, 0, 4, 1, 1, 4] poR)) (by decide) ?_
  refine T3.seq (s := (sel [1, 1, 1, 1, 1, 1, 1, 0, 1, 4, 4, 1, 1, 0, 4, 1, 1, 1, 0, 1, 4, 4, 1, 1, 0, 4, 1, 1, 4, 0] poR)) (c := .cond (.tmp 78) (sel [1, 1, 1, 1, 1, 1, 1, 0, 1, 4, 4, 1, 1, 0, 4, 1, 1, 1, 0, 1, 4, 4, 1, 1, 0, 4, 1, 1, 4, 1, 2] poR) (sel [1, 1, 1, 1, 1, 1, 1, 0, 1, 4, 4, 1, 1, 0, 4, 1, 1, 1, 0, 1, 4, 4, 1, 1, 0, 4, 1, 1, 4, 1, 3] poR)) ((pq25 w0 gb vt vr ts rs h w1 v7 v11 v13 left ws N hqi kx j vN vL).noX) ?_
  refine T3.iff (M := fun q w => (q = decide (geta ws j = ByteArray.empty)) ∧ Pr2 w1 w 3 vN vL (winL ts left ws j) (losL ts left ws j)) (by decide) ?_ ?_
  · refine T3.seq (s := (sel [1, 1, 1, 1, 1, 1, 1, 0, 1, 4, 4, 1, 1, 0, 4, 1, 1, 1, 0, 1, 4, 4, 1, 1, 0, 4, 1, 1, 4, 1, 2, 0] poR)) (c := .ret) (t3_seqx (p := geta ws j = ByteArray.empty) ((pq26 w0 gb vt vr ts rs h w1 v7 v11 v13 left ws N hqi kx j vN vL).noX) ?_) (T3.ret ?_)
    · rintro a w ⟨hF, hq, hW⟩
      exact ⟨of_decide_eq_true hq.symm, hW, hF.tail⟩
    · rintro a w ⟨hp, hW, hF⟩
      exact ret8 hqi.bel hqi.l hqi.pn p8 hj.1 hj.2 hn (.inl hp) hF hW
  refine T3.pre (R := fun a w => (geta ws j ≠ ByteArray.empty) ∧ (Pr2 w1 w 3 vN vL (winL ts left ws j) (losL ts left ws j)) ∧ Fr 146 [(1, vr), (2, .pointer (some ⟨gb, 0, none⟩)), (7, v7), (10, .func (.func 64) #[] #[.pointer (some ⟨gb, 0, none⟩)]), (11, v11), (14, vN), (15, vL), (16, .int .i64 j), (17, .string (geta ws j)), (18, .int .i64 (gA left j)), (19, .int .i64 (gB left j)), (48, vr), (49, .int .i64 rs.length), (50, .int .i64 kx), (60, v13), (61, .int .i64 ws.length), (62, .int .i64 j)] a) (T3.pure fun hne => ?_) (fun a w q => ⟨of_decide_eq_false q.2.1.symm, q.2.2, q.1.tail⟩)
  refine T3.post (S := fun a w => (¬ badG ts (gA left j) (gB left j) (geta ws j)) ∧ ∃ (vN vL : Value), (Pr2 w1 w 3 vN vL (winL ts left ws (j + 1)) (losL ts left ws (j + 1))) ∧ Fr 146 [(1, vr), (2, .pointer (some ⟨gb, 0, none⟩)), (7, v7), (10, .func (.func 64) #[] #[.pointer (some ⟨gb, 0, none⟩)]), (11, v11), (14, vN), (15, vL), (48, vr), (49, .int .i64 rs.length), (50, .int .i64 kx), (60, v13), (61, .int .i64 ws.length), (62, .int .i64 j)] a) ?_ (fun a w ⟨hnb, vN, vL, hW, hF⟩ => ⟨vN, vL, ⟨hj, hn.step (by unfold gErr; rw [if_neg hnb])⟩, hW, hF⟩)
  refine T3.seq (s := (sel [1, 1, 1, 1, 1, 1, 1, 0, 1, 4, 4, 1, 1, 0, 4, 1, 1, 1, 0, 1, 4, 4, 1, 1, 0, 4, 1, 1, 4, 1, 3, 0] poR)) (c := .cond (.tmp 81) (sel [1, 1, 1, 1, 1, 1, 1, 0, 1, 4, 4, 1, 1, 0, 4, 1, 1, 1, 0, 1, 4, 4, 1, 1, 0, 4, 1, 1, 4, 1, 3, 1, 2] poR) (sel [1, 1, 1, 1, 1, 1, 1, 0, 1, 4, 4, 1, 1, 0, 4, 1, 1, 1, 0, 1, 4, 4, 1, 1, 0, 4, 1, 1, 4, 1, 3, 1, 3] poR)) ((pq27 w0 gb vt vr ts rs h w1 v7 v11 v13 left ws N hqi kx j vN vL ha0).noX) ?_
  refine T3.iff (M := fun q w => (q = ((geta ws j).toList == (nmP ts (gA left j)).toList)) ∧ Pr2 w1 w 3 vN vL (winL ts left ws j) (losL ts left ws j)) (by decide) ?_ ?_
  · refine t3_seqx (p := geta ws j = nmP ts (gA left j)) (t3_ofP fun hx => (pq28 w0 gb vt vr ts rs h w1 v7 v11 v13 left ws N hqi kx j vN vL hj (by show winG _ _ _ _ = _; unfold winG; rw [if_pos hx]) (by show losG _ _ _ _ = _; unfold losG; rw [if_pos hx])).noX) ?_ |>.post ?_
    · rintro a w ⟨hF, hq, hW⟩
      exact ⟨(Lib.bytes_beq_iff _ _).1 hq.symm, (Lib.bytes_beq_iff _ _).1 hq.symm, hW, hF.tail⟩
    · rintro a w ⟨hx, q⟩
      exact ⟨fun hb => by rcases hb with hb | hb; exact hne hb; exact hb.1 hx, q⟩
  refine T3.pre (R := fun a w => (geta ws j ≠ nmP ts (gA left j)) ∧ (Pr2 w1 w 3 vN vL (winL ts left ws j) (losL ts left ws j)) ∧ Fr 146 [(1, vr), (2, .pointer (some ⟨gb, 0, none⟩)), (7, v7), (10, .func (.func 64) #[] #[.pointer (some ⟨gb, 0, none⟩)]), (11, v11), (14, vN), (15, vL), (16, .int .i64 j), (17, .string (geta ws j)), (18, .int .i64 (gA left j)), (19, .int .i64 (gB left j)), (48, vr), (49, .int .i64 rs.length), (50, .int .i64 kx), (60, v13), (61, .int .i64 ws.length), (62, .int .i64 j)] a) (T3.pure fun hna => ?_) (fun a w q => ⟨(Lib.bytes_beq_false_iff _ _).1 q.2.1.symm, q.2.2, q.1.tail⟩)
  refine T3.seq (s := (sel [1, 1, 1, 1, 1, 1, 1, 0, 1, 4, 4, 1, 1, 0, 4, 1, 1, 1, 0, 1, 4, 4, 1, 1, 0, 4, 1, 1, 4, 1, 3, 1, 3, 0] poR)) (c := .cond (.tmp 95) (sel [1, 1, 1, 1, 1, 1, 1, 0, 1, 4, 4, 1, 1, 0, 4, 1, 1, 1, 0, 1, 4, 4, 1, 1, 0, 4, 1, 1, 4, 1, 3, 1, 3, 1, 2] poR) (sel [1, 1, 1, 1, 1, 1, 1, 0, 1, 4, 4, 1, 1, 0, 4, 1, 1, 1, 0, 1, 4, 4, 1, 1, 0, 4, 1, 1, 4, 1, 3, 1, 3, 1, 3] poR)) ((pq29 w0 gb vt vr ts rs h w1 v7 v11 v13 left ws N hqi kx j vN vL hb0).noX) ?_
  refine T3.iff (M := fun q w => (q = ((geta ws j).toList == (nmP ts (gB left j)).toList)) ∧ Pr2 w1 w 3 vN vL (winL ts left ws j) (losL ts left ws j)) (by decide) ?_ ?_
  · refine t3_seqx (p := geta ws j = nmP ts (gB left j)) ((pq30 w0 gb vt vr ts rs h w1 v7 v11 v13 left ws N hqi kx j vN vL hj (by show winG _ _ _ _ = _; unfold winG; rw [if_neg hna]) (by show losG _ _ _ _ = _; unfold losG; rw [if_neg hna])).noX) ?_ |>.post ?_
    · rintro a w ⟨hF, hq, hW⟩
      exact ⟨(Lib.bytes_beq_iff _ _).1 hq.symm, hW, hF.tail⟩
    · rintro a w ⟨hx, q⟩
      exact ⟨fun hb => by rcases hb with hb | hb; exact hne hb; exact hb.2 hx, q⟩
  · refine T3.seq (s := (sel [1, 1, 1, 1, 1, 1, 1, 0, 1, 4, 4, 1, 1, 0, 4, 1, 1, 1, 0, 1, 4, 4, 1, 1, 0, 4, 1, 1, 4, 1, 3, 1, 3, 1, 3, 0] poR)) (c := .ret) (t3_seqx (p := geta ws j ≠ nmP ts (gB left j)) ((pq24 w0 gb vt vr ts rs h w1 v7 v11 v13 left ws N hqi kx j vN vL).noX) ?_) (T3.ret ?_)
    · rintro a w ⟨hF, hq, hW⟩
      exact ⟨(Lib.bytes_beq_false_iff _ _).1 hq.symm, hW, hF.tail⟩
    · rintro a w ⟨hp, hW, hF⟩
      exact ret8 hqi.bel hqi.l hqi.pn p8 hj.1 hj.2 hn (.inr ⟨hna, hp⟩) hF hW

def pqlI (w0 : World) (gb : Nat) (vt vr : Value) (ts : List ByteArray) (rs : List (List ByteArray)) (h : QH w0 gb vt vr ts rs) (w1 : World) (v7 v11 v13 : Value) (left : List Int) (ws : List ByteArray) (N : Nat) (hqi : QI w0 gb vt ts w1 v7 v13 left ws N) (kx : Int) (p8 : P8 ts rs left ws) (k : Int) (a : Act) (w : World) : Prop := (0 ≤ k ∧ k ≤ ws.length) ∧ ∃ (vN vL : Value), (NoErr (gErr ts left ws) k) ∧ (Pr2 w1 w 3 vN vL (winL ts left ws k) (losL ts left ws k)) ∧ Fr 146 [(1, vr), (2, .pointer (some ⟨gb, 0, none⟩)), (7, v7), (10, .func (.func 64) #[] #[.pointer (some ⟨gb, 0, none⟩)]), (11, v11), (14, vN), (15, vL), (48, vr), (49, .int .i64 rs.length), (50, .int .i64 kx), (60, v13), (61, .int .i64 ws.length), (62, .int .i64 k)] a
set_option maxRecDepth 100000 in
set_option maxHeartbeats 1000000 in
theorem pqlt (w0 : World) (gb : Nat) (vt vr : Value) (ts : List ByteArray) (rs : List (List ByteArray)) (h : QH w0 gb vt vr ts rs) (w1 : World) (v7 v11 v13 : Value) (left : List Int) (ws : List ByteArray) (N : Nat) (hqi : QI w0 gb vt ts w1 v7 v13 left ws N) (kx : Int) (p8 : P8 ts rs left ws) (k : Int) : T3 Try.prog (fun a w => pqlI w0 gb vt vr ts rs h w1 v7 v11 v13 left ws N hqi kx p8 k a w) (sel [1, 1, 1, 1, 1, 1, 1, 0, 1, 4, 4, 1, 1, 0, 4, 1, 1, 1, 0, 1, 4, 4, 0] poR) (fun a w => ∃ q, Fr 146 ((63, .bool q) :: [(62, .int .i64 k)]) a ∧ ((q = true ↔ k < ws.length) ∧ pqlI w0 gb vt vr ts rs h w1 v7 v11 v13 left ws N hqi kx p8 k a w)) No 9 (fun a w => ∃ v4 : Value, Fr 146 [(4, v4), (5, .int .i64 (playE ts rs))] a ∧ w.ownsRow w0.heap.size 9 1 v4 (playL ts rs).length (cellsOf encSt (playL ts rs)) ∧ Below w0.heap.size w0 w) := by
  refine T3.leaf ?_
  rintro Q JS JX JT K hS hK hX hE hT hR a w ⟨hk, vN, vL, hpre, hW, ⟨fr, rfl, q1, q2, q7, q10, q11, q14, q15, q48, q49, q50, q60, q61, q62, _⟩⟩
  have wm := hqi.wm
  rw [fr_poR, show fr 1 = _ from q1, show fr 2 = _ from q2, show fr 7 = _ from q7, show fr 10 = _ from q10, show fr 11 = _ from q11, show fr 14 = _ from q14, show fr 15 = _ from q15, show fr 48 = _ from q48, show fr 49 = _ from q49, show fr 50 = _ from q50, show fr 60 = _ from q60, show fr 61 = _ from q61, show fr 62 = _ from q62]
  clear q1 q2 q7 q10 q11 q14 q15 q48 q49 q50 q60 q61 q62
  conv => arg 2; whnf
  by_cases hlt : k < ws.length
  · go_wp2_with fail
    refine Met.intro (hS _ _ ?_)
    exact ⟨true, Fr.of _ rfl ⟨rfl, rfl, trivial⟩, ⟨fun _ => hlt, fun _ => rfl⟩, hk, vN, vL, hpre, hW, Fr.of _ rfl ⟨rfl, rfl, rfl, rfl, rfl, rfl, rfl, rfl, rfl, rfl, rfl, rfl, rfl, trivial⟩⟩
  · have hpb : decide (k < (ws.length : Int)) = false := by simp; omega
    go_wp2_with fail
    refine Met.intro (hS _ _ ?_)
    exact ⟨false, Fr.of _ rfl ⟨rfl, rfl, trivial⟩, ⟨(fun h => by cases h), fun h => absurd h (by omega)⟩, hk, vN, vL, hpre, hW, Fr.of _ rfl ⟨rfl, rfl, rfl, rfl, rfl, rfl, rfl, rfl, rfl, rfl, rfl, rfl, rfl, trivial⟩⟩

set_option maxRecDepth 100000 in
set_option maxHeartbeats 1000000 in
theorem pqln (w0 : World) (gb : Nat) (vt vr : Value) (ts : List ByteArray) (rs : List (List ByteArray)) (h : QH w0 gb vt vr ts rs) (w1 : World) (v7 v11 v13 : Value) (left : List Int) (ws : List ByteArray) (N : Nat) (hqi : QI w0 gb vt ts w1 v7 v13 left ws N) (kx : Int) (p8 : P8 ts rs left ws) (k : Int) : T3 Try.prog (fun a w => (0 ≤ k ∧ k < ws.length) ∧ ∃ (vN vL : Value), (NoErr (gErr ts left ws) (k + 1)) ∧ (Pr2 w1 w 3 vN vL (winL ts left ws (k + 1)) (losL ts left ws (k + 1))) ∧ Fr 146 [(1, vr), (2, .pointer (some ⟨gb, 0, none⟩)), (7, v7), (10, .func (.func 64) #[] #[.pointer (some ⟨gb, 0, none⟩)]), (11, v11), (14, vN), (15, vL), (48, vr), (49, .int .i64 rs.length), (50, .int .i64 kx), (60, v13), (61, .int .i64 ws.length), (62, .int .i64 k)] a) (sel [1, 1, 1, 1, 1, 1, 1, 0, 1, 4, 4, 1, 1, 0, 4, 1, 1, 1, 0, 1, 4, 4, 1, 1, 1] poR) (fun a w => pqlI w0 gb vt vr ts rs h w1 v7 v11 v13 left ws N hqi kx p8 (k + 1) a w) No 9 (fun a w => ∃ v4 : Value, Fr 146 [(4, v4), (5, .int .i64 (playE ts rs))] a ∧ w.ownsRow w0.heap.size 9 1 v4 (playL ts rs).length (cellsOf encSt (playL ts rs)) ∧ Below w0.heap.size w0 w) := by
  refine T3.leaf ?_
  rintro Q JS JX JT K hS hK hX hE hT hR a w ⟨hk, vN, vL, hpre, hW, ⟨fr, rfl, q1, q2, q7, q10, q11, q14, q15, q48, q49, q50, q60, q61, q62, _⟩⟩
  obtain ⟨hk0, hk1⟩ := hk
  have wm := hqi.wm
  rw [fr_poR, show fr 1 = _ from q1, show fr 2 = _ from q2, show fr 7 = _ from q7, show fr 10 = _ from q10, show fr 11 = _ from q11, show fr 14 = _ from q14, show fr 15 = _ from q15, show fr 48 = _ from q48, show fr 49 = _ from q49, show fr 50 = _ from q50, show fr 60 = _ from q60, show fr 61 = _ from q61, show fr 62 = _ from q62]
  clear q1 q2 q7 q10 q11 q14 q15 q48 q49 q50 q60 q61 q62
  conv => arg 2; whnf
  go_wp2_with fail
  refine Met.intro (hS _ _ ?_)
  exact ⟨⟨by omega, by omega⟩, vN, vL, hpre, hW, Fr.of _ rfl ⟨rfl, rfl, rfl, rfl, rfl, rfl, rfl, rfl, rfl, rfl, rfl, rfl, rfl, trivial⟩⟩

set_option maxRecDepth 100000 in
set_option maxHeartbeats 1000000 in
theorem pqlloop (w0 : World) (gb : Nat) (vt vr : Value) (ts : List ByteArray) (rs : List (List ByteArray)) (h : QH w0 gb vt vr ts rs) (w1 : World) (v7 v11 v13 : Value) (left : List Int) (ws : List ByteArray) (N : Nat) (hqi : QI w0 gb vt ts w1 v7 v13 left ws N) (kx : Int) (p8 : P8 ts rs left ws) : T3 Try.prog (fun a w => pqlI w0 gb vt vr ts rs h w1 v7 v11 v13 left ws N hqi kx p8 0 a w) (sel [1, 1, 1, 1, 1, 1, 1, 0, 1, 4, 4, 1, 1, 0, 4, 1, 1, 1, 0, 1] poR) (fun a w => ∃ (vN vL : Value), (NoErr (gErr ts left ws) ws.length) ∧ (Pr2 w1 w 3 vN vL (winL ts left ws ws.length) (losL ts left ws ws.length)) ∧ Fr 146 [(1, vr), (2, .pointer (some ⟨gb, 0, none⟩)), (7, v7), (10, .func (.func 64) #[] #[.pointer (some ⟨gb, 0, none⟩)]), (11, v11), (14, vN), (15, vL), (48, vr), (49, .int .i64 rs.length), (50, .int .i64 kx)] a) No 9 (fun a w => ∃ v4 : Value, Fr 146 [(4, v4), (5, .int .i64 (playE ts rs))] a ∧ w.ownsRow w0.heap.size 9 1 v4 (playL ts rs).length (cellsOf encSt (playL ts rs)) ∧ Below w0.heap.size w0 w) := by
  refine T3.loop (c := (sel [1, 1, 1, 1, 1, 1, 1, 0, 1, 4, 4, 1, 1, 0, 4, 1, 1, 1, 0, 1, 4, 4] poR)) (fun ng_ a w => ∃ k : Int, (ng_ : Int) = ws.length - k ∧ pqlI w0 gb vt vr ts rs h w1 v7 v11 v13 left ws N hqi kx p8 k a w) (fun a w h => ⟨(ws.length : Int).toNat, 0, by have := h.1.2; omega, h⟩) (fun ng_ => T3.ex fun k => T3.pure fun hng_ => ?_)
  refine T3.seq (s := (sel [1, 1, 1, 1, 1, 1, 1, 0, 1, 4, 4, 1, 1, 0, 4, 1, 1, 1, 0, 1, 4, 4, 0] poR)) (c := (sel [1, 1, 1, 1, 1, 1, 1, 0, 1, 4, 4, 1, 1, 0, 4, 1, 1, 1, 0, 1, 4, 4, 1] poR)) ((pqlt w0 gb vt vr ts rs h w1 v7 v11 v13 left ws N hqi kx p8 k).noX) ?_
  refine T3.seq (s := (sel [1, 1, 1, 1, 1, 1, 1, 0, 1, 4, 4, 1, 1, 0, 4, 1, 1, 1, 0, 1, 4, 4, 1, 0] poR)) (c := (sel [1, 1, 1, 1, 1, 1, 1, 0, 1, 4, 4, 1, 1, 0, 4, 1, 1, 1, 0, 1, 4, 4, 1, 1] poR)) (S := fun a w => (0 ≤ k ∧ k < ws.length) ∧ ∃ (vN vL : Value), (NoErr (gErr ts left ws) k) ∧ (Pr2 w1 w 3 vN vL (winL ts left ws k) (losL ts left ws k)) ∧ Fr 146 [(1, vr), (2, .pointer (some ⟨gb, 0, none⟩)), (7, v7), (10, .func (.func 64) #[] #[.pointer (some ⟨gb, 0, none⟩)]), (11, v11), (14, vN), (15, vL), (48, vr), (49, .int .i64 rs.length), (50, .int .i64 kx), (60, v13), (61, .int .i64 ws.length), (62, .int .i64 k)] a) ?_ (T3.seq (s := (sel [1, 1, 1, 1, 1, 1, 1, 0, 1, 4, 4, 1, 1, 0, 4, 1, 1, 1, 0, 1, 4, 4, 1, 1, 0] poR)) (c := (sel [1, 1, 1, 1, 1, 1, 1, 0, 1, 4, 4, 1, 1, 0, 4, 1, 1, 1, 0, 1, 4, 4, 1, 1, 1] poR)) (S := fun a w => (0 ≤ k ∧ k < ws.length) ∧ ∃ (vN vL : Value), (NoErr (gErr ts left ws) (k + 1)) ∧ (Pr2 w1 w 3 vN vL (winL ts left ws (k + 1)) (losL ts left ws (k + 1))) ∧ Fr 146 [(1, vr), (2, .pointer (some ⟨gb, 0, none⟩)), (7, v7), (10, .func (.func 64) #[] #[.pointer (some ⟨gb, 0, none⟩)]), (11, v11), (14, vN), (15, vL), (48, vr), (49, .int .i64 rs.length), (50, .int .i64 kx), (60, v13), (61, .int .i64 ws.length), (62, .int .i64 k)] a) (T3.noX (T3.mono (R' := fun a w => (0 ≤ k ∧ k < ws.length) ∧ ∃ (vN vL : Value), (NoErr (gErr ts left ws) k) ∧ (Pr2 w1 w 3 vN vL (winL ts left ws k) (losL ts left ws k)) ∧ Fr 146 [(1, vr), (2, .pointer (some ⟨gb, 0, none⟩)), (7, v7), (10, .func (.func 64) #[] #[.pointer (some ⟨gb, 0, none⟩)]), (11, v11), (14, vN), (15, vL), (48, vr), (49, .int .i64 rs.length), (50, .int .i64 kx), (60, v13), (61, .int .i64 ws.length), (62, .int .i64 k)] a) (S' := fun a w => (0 ≤ k ∧ k < ws.length) ∧ ∃ (vN vL : Value), (NoErr (gErr ts left ws) (k + 1)) ∧ (Pr2 w1 w 3 vN vL (winL ts left ws (k + 1)) (losL ts left ws (k + 1))) ∧ Fr 146 [(1, vr), (2, .pointer (some ⟨gb, 0, none⟩)), (7, v7), (10, .func (.func 64) #[] #[.pointer (some ⟨gb, 0, none⟩)]), (11, v11), (14, vN), (15, vL), (48, vr), (49, .int .i64 rs.length), (50, .int .i64 kx), (60, v13), (61, .int .i64 ws.length), (62, .int .i64 k)] a) (pqb w0 gb vt vr ts rs h w1 v7 v11 v13 left ws N hqi kx p8 k) (fun a w ⟨hk, vN, vL, hp, hI⟩ => ⟨vN, vL, ⟨hk, hp⟩, hI⟩) (fun a w ⟨vN, vL, ⟨hk, hp⟩, hI⟩ => ⟨hk, vN, vL, hp, hI⟩) (fun _ _ q => q) (fun _ _ q => q))) ?_)
  · refine T3.cond (o := .tmp 63) (x := .skip) (y := .exit 4) (fun a w => k < ws.length ∧ pqlI w0 gb vt vr ts rs h w1 v7 v11 v13 left ws N hqi kx p8 k a w) (fun a w => ¬ k < ws.length ∧ pqlI w0 gb vt vr ts rs h w1 v7 v11 v13 left ws N hqi kx p8 k a w) ?_ (T3.skip ?_) (T3.exit ?_)
    · rintro a w ⟨q, hF, hq, hI⟩
      have he := hF.eval 63 (by decide) (v := .bool q) (by simp)
      cases q
      · exact .inr ⟨he, (fun h => by have := hq.2 h; cases this), hI⟩
      · exact .inl ⟨he, hq.1 rfl, hI⟩
    · rintro a w ⟨hlt, hk, hI⟩
      exact ⟨⟨hk.1, hlt⟩, hI⟩
    · rintro a w ⟨hlt, hk, hI⟩
      obtain rfl : k = ws.length := by omega
      obtain ⟨vN, vL, hn, hW, hF⟩ := hI
      exact ⟨vN, vL, hn, hW, hF.sub (by simp)⟩
  · intro a w hx
    have hk := hx.1
    exact (((pqln w0 gb vt vr ts rs h w1 v7 v11 v13 left ws N hqi kx p8 k).noX).post (fun a w q => ⟨ng_ - 1, by omega, k + 1, by omega, q⟩)) a w hx
end Go.Proofs.Ytkdimgghljklmaa
/-
  Finals: rows of a call's own, turned round by the library; plain lemmas on the order of those who fell. No condition on a program's data.
-/
set_option linter.unusedVariables false
namespace Go.Proofs.Ytkdimgghljklmaa
open Go.RowKit Go.Bw
set_option maxRecDepth 100000 in
theorem rev_own (v : Value) (n base : Nat) (l : List Int) (w : World) (h : w.ownsRow base 3 1 v n (l.map (.int .i64))) (hn : n ≤ 1099511627776) :
    Calls Try.prog 66 #[v] w fun e w' => e = .returned (.tuple #[]) ∧ w'.ownsRow base 3 1 v n (l.reverse.map (.int .i64)) ∧ w.grownBy w' v.ownBlock := by
  have hl : l.length = n := by have := h.1; simpa using this
  rcases h.2 with ⟨rfl, h0⟩ | ⟨g, cap, cur, rfl, hbase, hb, h1, h2, h3, h4⟩
  · subst hl
    rw [h0]
    refine (Try.slices_Reverse_int_empty none 0 w).mono ?_
    rintro e w' ⟨rfl, rfl⟩
    have hl0 : l = [] := List.length_eq_zero_iff.1 h0
    subst hl0
    exact ⟨rfl, World.ownsRow_nil _ _ _ _, grown_refl _ _⟩
  · subst hl
    refine (Try.slices_Reverse_int g 0 cap l w (holds_of_blockI hb (by simpa using h4)) (by omega)).mono ?_
    rintro e w' ⟨rfl, m, rfl⟩
    have e1 := ownsRow_sortedI (n := m) (os := #[]) (ts := l.reverse) (by simp) hbase hb h1 h2 h3
    have e2 := grownBy_sortedI (w := w) (g := g) (n := m) (os := #[]) l.reverse.toArray
    rw [Sort.grow_empty] at e1 e2
    exact ⟨rfl, e1, e2⟩
theorem cellsOf_str (l : List ByteArray) : cellsOf encSt l = (l.map fun b => b.data.toList).map encStr := by
  induction l with
  | nil => rfl
  | cons x l ih => rw [cellsOf_cons, ih]; rfl
set_option maxRecDepth 100000 in
theorem revS_own (v : Value) (n base : Nat) (l : List ByteArray) (w : World) (h : w.ownsRow base 9 1 v n (cellsOf encSt l)) (hn : n ≤ 1099511627776) :
    Calls Try.prog 67 #[v] w fun e w' => e = .returned (.tuple #[]) ∧ w'.ownsRow base 9 1 v n (cellsOf encSt l.reverse) ∧ w.grownBy w' v.ownBlock := by
  rw [cellsOf_str] at h
  have hl : (l.map fun b => b.data.toList).length = n := by have := h.1; simpa using this
  have er : cellsOf encSt l.reverse = ((l.map fun b => b.data.toList).reverse).map encStr := by rw [cellsOf_str, List.map_reverse]
  rw [er]
  generalize (l.map fun b => b.data.toList) = z at *
  rcases h.2 with ⟨rfl, h0⟩ | ⟨g, cap, cur, rfl, hbase, hb, h1, h2, h3, h4⟩
  · subst hl
    rw [h0]
    refine (Try.slices_Reverse_string_empty none 0 w).mono ?_
    rintro e w' ⟨rfl, rfl⟩
    have hl0 : z = [] := List.length_eq_zero_iff.1 h0
    subst hl0
    exact ⟨rfl, World.ownsRow_nil _ _ _ _, grown_refl _ _⟩
  · subst hl
    refine (Try.slices_Reverse_string g 0 cap z w (holds_of_block hb (by simpa using h4)) (by omega)).mono ?_
    rintro e w' ⟨rfl, m, rfl⟩
    have e1 := ownsRow_sorted (n := m) (os := #[]) (ts := z.reverse) (by simp) hbase hb h1 h2 h3
    have e2 := grownBy_sorted (w := w) (g := g) (n := m) (os := #[]) z.reverse.toArray
    rw [Sort.grow_empty] at e1 e2
    exact ⟨rfl, e1, e2⟩
theorem sort_pw (l : List Int) : (sortL l).Pairwise (fun x y => x ≤ y) := by
  have h := List.pairwise_mergeSort (le := fun (x y : Int) => decide (x ≤ y)) (fun a b c h1 h2 => by simp at *; omega) (fun a b => by simp; omega) l
  exact h.imp fun h => by simpa using h
theorem sort_uniq {l m : List Int} (hp : m.Perm l) (hs : m.Pairwise (fun x y => x ≤ y)) : m = sortL l := by
  refine List.Perm.eq_of_pairwise (le := fun x y => x ≤ y) (fun a b _ _ h1 h2 => Int.le_antisymm h1 h2) hs (sort_pw l) (hp.trans (List.mergeSort_perm l _).symm)
theorem up_real_sort (n : Nat) (l : List Int) : upL (realL n (sortL l)) = sortL (upL (realL n l)) := by
  refine sort_uniq ?_ ?_
  · unfold upL realL; exact ((List.mergeSort_perm l _).filter _).map _
  · unfold upL realL; rw [List.pairwise_map]; exact ((sort_pw l).filter _).imp fun h => by omega
/-- Those who fell, in the order in which the reference notes them. -/
def outK (ts : List ByteArray) (rs : List (List ByteArray)) : Nat → List Int
  | 0 => []
  | k + 1 => outK ts rs k ++ realL ts.length (sortL (losK ts rs k)).reverse
def namesI (ts : List ByteArray) (l : List Int) : List ByteArray := l.map fun i => geta ts i
theorem namesO_up (ts : List ByteArray) (l : List Int) : namesO ts (upL l) = namesI ts l := by
  unfold namesO upL namesI
  rw [List.map_map]
  exact List.map_congr_left fun x _ => by simp
theorem out_ord (ts : List ByteArray) (rs : List (List ByteArray)) : ∀ k, namesO ts (ordK ts rs k) = (namesI ts (outK ts rs k)).reverse
  | 0 => rfl
  | k + 1 => by
    have ih := out_ord ts rs k
    have h1 : ordK ts rs (k + 1) = upL (realL ts.length (sortL (losK ts rs k))) ++ ordK ts rs k := by rw [up_real_sort]; rfl
    have h2 : outK ts rs (k + 1) = outK ts rs k ++ realL ts.length (sortL (losK ts rs k)).reverse := rfl
    have h3 : ∀ a b, namesO ts (a ++ b) = namesO ts a ++ namesO ts b := fun a b => by simp [namesO]
    rw [h1, h2, h3, namesO_up, ih]
    unfold namesI realL
    simp [List.filter_reverse]
theorem out_end (ts : List ByteArray) (rs : List (List ByteArray)) (h0 : playE ts rs = 0) (h1 : (leftK ts rs rs.length).length = 1) : (namesI ts (outK ts rs rs.length) ++ [geta ts (geti (leftK ts rs rs.length) 0)]).reverse = playL ts rs := by
  unfold playL playO
  rw [if_pos h0]
  have h3 : ∀ a b, namesO ts (a ++ b) = namesO ts a ++ namesO ts b := fun a b => by simp [namesO]
  rw [h3, namesO_up, out_ord]
  obtain ⟨x, hx⟩ := List.length_eq_one_iff.1 h1
  rw [hx]
  simp [namesI, geti]
theorem namesI_snoc (ts : List ByteArray) (l : List Int) (x : Int) : namesI ts (l ++ [x]) = namesI ts l ++ [geta ts x] := by simp [namesI]
theorem namesI_length (ts : List ByteArray) (l : List Int) : (namesI ts l).length = l.length := by simp [namesI]
end Go.Proofs.Ytkdimgghljklmaa
/-
  Finals: a bracket that is played, the reference's PlayOf: the pieces of a round, outside its games. Conditions: strings are no longer than Go's; at most 1000 seeds, rounds and names.
-/
set_option linter.unusedVariables false
namespace Go.Proofs.Ytkdimgghljklmaa
open Go.RowKit Go.Bw
theorem lk_hi {ts : List ByteArray} (hg : SGood ts) {rs : List (List ByteArray)} : ∀ (k : Nat), k ≤ rN ts → NoErr (rndK ts rs) k → ∀ x ∈ leftK ts rs k, x ≤ 100
  | 0, _, _ => by
    have h32 := left0_max ⟨ts.length, by have := hg.n20; omega⟩
    simp only [List.all_eq_true, decide_eq_true_eq] at h32
    exact h32
  | k + 1, hk, hn => by
    have l := lk_all hg (rs := rs) k (by omega) (fun j h0 h1 => hn j h0 (by omega))
    have hz := hn (k : Int) (by omega) (by omega)
    unfold rndK at hz
    rw [Int.toNat_natCast] at hz
    intro x hx
    have := lk_in hg l (by omega) hz x hx
    have := hg.n20
    omega
theorem out_len {ts : List ByteArray} {rs : List (List ByteArray)} (hm : ∀ k, (wsAt rs k).length ≤ 1000) : ∀ k, (outK ts rs k).length ≤ 1000 * k
  | 0 => Nat.zero_le _
  | k + 1 => by
    have ih := out_len (ts := ts) hm k
    have h1 : (realL ts.length (sortL (losK ts rs k)).reverse).length ≤ (wsAt rs k).length := Nat.le_trans (List.length_filter_le _ _) (by simp [sortL_length, losK, losL])
    have := hm k
    show (outK ts rs k ++ realL ts.length (sortL (losK ts rs k)).reverse).length ≤ _
    rw [List.length_append]
    omega
/-- The world at the start of a round. -/
structure QR (w0 : World) (ts : List ByteArray) (rs : List (List ByteArray)) (v7 v11 : Value) (k : Int) (w : World) : Prop where
  bel : Below w0.heap.size w0 w
  lf : w.ownsRow w0.heap.size 3 1 v7 (leftK ts rs k.toNat).length ((leftK ts rs k.toNat).map (.int .i64))
  nm : w.ownsRow w0.heap.size 9 1 v11 (outK ts rs k.toNat).length (cellsOf encSt (namesI ts (outK ts rs k.toNat)))
theorem QR.start {w0 w1 w : World} {ts : List ByteArray} {rs : List (List ByteArray)} {v7 vb : Value} (qb : QB w0 w1 ts vb) (h : OwI w1 v7 (left0 ts.length) w) : QR w0 ts rs v7 (.slice none 0 0) 0 w :=
  ⟨qb.bel.trans (h.bel.mono qb.bel.size), owns_mono h.own qb.bel.size, World.ownsRow_nil _ _ _ _⟩
set_option maxRecDepth 100000 in
set_option maxHeartbeats 1000000 in
theorem pr0 (w0 : World) (gb : Nat) (vt vr : Value) (ts : List ByteArray) (rs : List (List ByteArray)) (h : QH w0 gb vt vr ts rs) (hg : SGood ts) (hL : (rs.length : Int) = roundsF ts.length) (v7 : Value) : T3 Try.prog (fun a w => (QR w0 ts rs v7 (.slice none 0 0) 0 w) ∧ Fr 146 [(1, vr), (2, .pointer (some ⟨gb, 0, none⟩)), (7, v7)] a) (sel [1, 1, 1, 1, 1, 0] poR) (fun a w => (QR w0 ts rs v7 (.slice none 0 0) 0 w) ∧ Fr 146 [(1, vr), (2, .pointer (some ⟨gb, 0, none⟩)), (7, v7), (10, .func (.func 64) #[] #[.pointer (some ⟨gb, 0, none⟩)])] a) No 9 (fun a w => ∃ v4 : Value, Fr 146 [(4, v4), (5, .int .i64 (playE ts rs))] a ∧ w.ownsRow w0.heap.size 9 1 v4 (playL ts rs).length (cellsOf encSt (playL ts rs)) ∧ Below w0.heap.size w0 w) := by
  refine T3.leaf ?_
  rintro Q JS JX JT K hS hK hX hE hT hR a w ⟨hW, ⟨fr, rfl, q1, q2, q7, _⟩⟩
  obtain ⟨pr, cr, hvr⟩ := h.r.shape
  subst hvr
  have HW := Lib.hid hW
  obtain ⟨p7, c7, hv7⟩ := (Row.of_owns hW.lf).shape
  subst hv7
  clear hL
  clear hW
  rw [fr_poR, show fr 1 = _ from q1, show fr 2 = _ from q2, show fr 7 = _ from q7]
  clear q1 q2 q7
  conv => arg 2; whnf
  go_wp2_with fail
  refine Met.intro (hS _ _ ?_)
  exact ⟨HW.out, Fr.of _ rfl ⟨rfl, rfl, rfl, rfl, trivial⟩⟩

set_option maxRecDepth 100000 in
set_option maxHeartbeats 1000000 in
theorem pr1 (w0 : World) (gb : Nat) (vt vr : Value) (ts : List ByteArray) (rs : List (List ByteArray)) (h : QH w0 gb vt vr ts rs) (hg : SGood ts) (hL : (rs.length : Int) = roundsF ts.length) (v7 : Value) : T3 Try.prog (fun a w => (QR w0 ts rs v7 (.slice none 0 0) 0 w) ∧ Fr 146 [(1, vr), (2, .pointer (some ⟨gb, 0, none⟩)), (7, v7), (10, .func (.func 64) #[] #[.pointer (some ⟨gb, 0, none⟩)])] a) (sel [1, 1, 1, 1, 1, 1, 0] poR) (fun a w => (QR w0 ts rs v7 (.slice none 0 0) 0 w) ∧ Fr 146 [(1, vr), (2, .pointer (some ⟨gb, 0, none⟩)), (7, v7), (10, .func (.func 64) #[] #[.pointer (some ⟨gb, 0, none⟩)]), (11, .slice none 0 0)] a) No 9 (fun a w => ∃ v4 : Value, Fr 146 [(4, v4), (5, .int .i64 (playE ts rs))] a ∧ w.ownsRow w0.heap.size 9 1 v4 (playL ts rs).length (cellsOf encSt (playL ts rs)) ∧ Below w0.heap.size w0 w) := by
  refine T3.leaf ?_
  rintro Q JS JX JT K hS hK hX hE hT hR a w ⟨hW, ⟨fr, rfl, q1, q2, q7, q10, _⟩⟩
  obtain ⟨pr, cr, hvr⟩ := h.r.shape
  subst hvr
  have HW := Lib.hid hW
  obtain ⟨p7, c7, hv7⟩ := (Row.of_owns hW.lf).shape
  subst hv7
  clear hL
  clear hW
  rw [fr_poR, show fr 1 = _ from q1, show fr 2 = _ from q2, show fr 7 = _ from q7, show fr 10 = _ from q10]
  clear q1 q2 q7 q10
  conv => arg 2; whnf
  go_wp2_with fail
  refine Met.intro (hS _ _ ?_)
  exact ⟨HW.out, Fr.of _ rfl ⟨rfl, rfl, rfl, rfl, rfl, trivial⟩⟩

set_option maxRecDepth 100000 in
set_option maxHeartbeats 1000000 in
theorem pr2 (w0 : World) (gb : Nat) (vt vr : Value) (ts : List ByteArray) (rs : List (List ByteArray)) (h : QH w0 gb vt vr ts rs) (hg : SGood ts) (hL : (rs.length : Int) = roundsF ts.length) (v7 : Value) : T3 Try.prog (fun a w => (QR w0 ts rs v7 (.slice none 0 0) 0 w) ∧ Fr 146 [(1, vr), (2, .pointer (some ⟨gb, 0, none⟩)), (7, v7), (10, .func (.func 64) #[] #[.pointer (some ⟨gb, 0, none⟩)]), (11, .slice none 0 0)] a) (sel [1, 1, 1, 1, 1, 1, 1, 0, 0] poR) (fun a w => (0 ≤ (0 : Int) ∧ (0 : Int) ≤ rs.length) ∧ ∃ (v7 v11 : Value), (NoErr (rndK ts rs) 0) ∧ (QR w0 ts rs v7 v11 0 w) ∧ Fr 146 [(1, vr), (2, .pointer (some ⟨gb, 0, none⟩)), (7, v7), (10, .func (.func 64) #[] #[.pointer (some ⟨gb, 0, none⟩)]), (11, v11), (48, vr), (49, .int .i64 rs.length), (50, .int .i64 0)] a) No 9 (fun a w => ∃ v4 : Value, Fr 146 [(4, v4), (5, .int .i64 (playE ts rs))] a ∧ w.ownsRow w0.heap.size 9 1 v4 (playL ts rs).length (cellsOf encSt (playL ts rs)) ∧ Below w0.heap.size w0 w) := by
  refine T3.leaf ?_
  rintro Q JS JX JT K hS hK hX hE hT hR a w ⟨hW, ⟨fr, rfl, q1, q2, q7, q10, q11, _⟩⟩
  obtain ⟨pr, cr, hvr⟩ := h.r.shape
  subst hvr
  have HW := Lib.hid hW
  obtain ⟨p7, c7, hv7⟩ := (Row.of_owns hW.lf).shape
  subst hv7
  clear hL
  clear hW
  rw [fr_poR, show fr 1 = _ from q1, show fr 2 = _ from q2, show fr 7 = _ from q7, show fr 10 = _ from q10, show fr 11 = _ from q11]
  clear q1 q2 q7 q10 q11
  conv => arg 2; whnf
  go_wp2_with fail
  refine Met.intro (hS _ _ ?_)
  exact ⟨⟨by omega, by omega⟩, _, _, NoErr.zero _, HW.out, Fr.of _ rfl ⟨rfl, rfl, rfl, rfl, rfl, rfl, rfl, rfl, trivial⟩⟩

set_option maxRecDepth 100000 in
set_option maxHeartbeats 1000000 in
theorem pr16 (w0 : World) (gb : Nat) (vt vr : Value) (ts : List ByteArray) (rs : List (List ByteArray)) (h : QH w0 gb vt vr ts rs) (hg : SGood ts) (hL : (rs.length : Int) = roundsF ts.length) (k : Int) (v7 v11 : Value) : T3 Try.prog (fun a w => ((0 ≤ k ∧ k < rs.length) ∧ NoErr (rndK ts rs) k) ∧ (QR w0 ts rs v7 v11 k w) ∧ Fr 146 [(1, vr), (2, .pointer (some ⟨gb, 0, none⟩)), (7, v7), (10, .func (.func 64) #[] #[.pointer (some ⟨gb, 0, none⟩)]), (11, v11), (48, vr), (49, .int .i64 rs.length), (50, .int .i64 k)] a) (sel [1, 1, 1, 1, 1, 1, 1, 0, 1, 4, 4, 1, 1, 0, 4, 0] poR) (fun a w => ∃ (v13 : Value), ((0 ≤ k ∧ k < rs.length) ∧ NoErr (rndK ts rs) k) ∧ (QR w0 ts rs v7 v11 k w ∧ Row w 0 1 v13 (wsAt rs k.toNat).length (cellsOf encSt (wsAt rs k.toNat))) ∧ Fr 146 [(1, vr), (2, .pointer (some ⟨gb, 0, none⟩)), (7, v7), (10, .func (.func 64) #[] #[.pointer (some ⟨gb, 0, none⟩)]), (11, v11), (13, v13), (48, vr), (49, .int .i64 rs.length), (50, .int .i64 k)] a) No 9 (fun a w => ∃ v4 : Value, Fr 146 [(4, v4), (5, .int .i64 (playE ts rs))] a ∧ w.ownsRow w0.heap.size 9 1 v4 (playL ts rs).length (cellsOf encSt (playL ts rs)) ∧ Below w0.heap.size w0 w) := by
  refine T3.leaf ?_
  rintro Q JS JX JT K hS hK hX hE hT hR a w ⟨hpre, hW, ⟨fr, rfl, q1, q2, q7, q10, q11, q48, q49, q50, _⟩⟩
  have HP := Lib.hid hpre
  obtain ⟨⟨hk0, hk1⟩, _⟩ := hpre
  obtain ⟨vs, hr1, hr2⟩ := (h.r.below hW.bel).r
  have hlv : vs.length = rs.length := by have := hr1.1; simpa using this
  obtain ⟨v13, hv13⟩ : ∃ v, vs[k.toNat]? = some v := ⟨vs[k.toNat]'(by omega), List.getElem?_eq_getElem (by omega)⟩
  have HR := Lib.hid (hr2 _ _ hv13)
  have hrn := h.r.n
  have HW := Lib.hid hW
  obtain ⟨p7, c7, hv7⟩ := (Row.of_owns hW.lf).shape
  subst hv7
  obtain ⟨p11, c11, hv11⟩ := (Row.of_owns hW.nm).shape
  subst hv11
  clear hL
  rcases hr1.2 with ⟨rfl, h0⟩ | ⟨bz, off, cap, rfl, _, hbz, hnc, hcm, hcell⟩
  · omega
  have t0 := hcell _ _ hv13
  clear hcell hr2 hlv hW
  generalize leftK ts rs k.toNat = LF at *
  generalize outK ts rs k.toNat = OO at *
  rw [fr_poR, show fr 1 = _ from q1, show fr 2 = _ from q2, show fr 7 = _ from q7, show fr 10 = _ from q10, show fr 11 = _ from q11, show fr 48 = _ from q48, show fr 49 = _ from q49, show fr 50 = _ from q50]
  clear q1 q2 q7 q10 q11 q48 q49 q50
  conv => arg 2; whnf
  go_wp2_with fail
  refine Met.intro (hS _ _ ?_)
  exact ⟨v13, HP.out, ⟨HW.out, HR.out⟩, Fr.of _ rfl ⟨rfl, rfl, rfl, rfl, rfl, rfl, rfl, rfl, rfl, trivial⟩⟩

theorem lk_now (w0 : World) (gb : Nat) (vt vr : Value) (ts : List ByteArray) (rs : List (List ByteArray)) (h : QH w0 gb vt vr ts rs) (hg : SGood ts) (hL : (rs.length : Int) = roundsF ts.length) (k : Int) (hk : 0 ≤ k ∧ k < rs.length) (hn : NoErr (rndK ts rs) k) : LOk ts (leftK ts rs k.toNat) (2 ^ (rN ts - k.toNat - 1)) := by
  have h5 := (rN_b hg).2.2
  exact (lk_all hg k.toNat (by omega) (by rw [Int.toNat_of_nonneg hk.1]; exact hn)).ok hg (by omega)
set_option maxRecDepth 100000 in
set_option maxHeartbeats 1000000 in
theorem pr17 (w0 : World) (gb : Nat) (vt vr : Value) (ts : List ByteArray) (rs : List (List ByteArray)) (h : QH w0 gb vt vr ts rs) (hg : SGood ts) (hL : (rs.length : Int) = roundsF ts.length) (k : Int) (v7 v11 : Value) (v13 : Value) (hk : 0 ≤ k ∧ k < rs.length) (hn : NoErr (rndK ts rs) k) : T3 Try.prog (fun a w => (QR w0 ts rs v7 v11 k w ∧ Row w 0 1 v13 (wsAt rs k.toNat).length (cellsOf encSt (wsAt rs k.toNat))) ∧ Fr 146 [(1, vr), (2, .pointer (some ⟨gb, 0, none⟩)), (7, v7), (10, .func (.func 64) #[] #[.pointer (some ⟨gb, 0, none⟩)]), (11, v11), (13, v13), (48, vr), (49, .int .i64 rs.length), (50, .int .i64 k)] a) (sel [1, 1, 1, 1, 1, 1, 1, 0, 1, 4, 4, 1, 1, 0, 4, 1, 0, 0] poR) (fun a w => ∃ q, Fr 146 ((59, .bool q) :: [(1, vr), (2, .pointer (some ⟨gb, 0, none⟩)), (7, v7), (10, .func (.func 64) #[] #[.pointer (some ⟨gb, 0, none⟩)]), (11, v11), (13, v13), (48, vr), (49, .int .i64 rs.length), (50, .int .i64 k)]) a ∧ ((q = (((wsAt rs k.toNat).length : Int) != ((2 ^ (rN ts - k.toNat - 1) : Nat) : Int))) ∧ QR w0 ts rs v7 v11 k w ∧ Row w 0 1 v13 (wsAt rs k.toNat).length (cellsOf encSt (wsAt rs k.toNat)))) No 9 (fun a w => ∃ v4 : Value, Fr 146 [(4, v4), (5, .int .i64 (playE ts rs))] a ∧ w.ownsRow w0.heap.size 9 1 v4 (playL ts rs).length (cellsOf encSt (playL ts rs)) ∧ Below w0.heap.size w0 w) := by
  refine T3.leaf ?_
  rintro Q JS JX JT K hS hK hX hE hT hR a w ⟨hW, ⟨fr, rfl, q1, q2, q7, q10, q11, q13, q48, q49, q50, _⟩⟩
  have l := lk_now w0 gb vt vr ts rs h hg hL k hk hn
  have hlen := l.len
  have h16 := l.n16
  have hm := h.r.m k.toNat
  have HWR := Lib.hid hW
  have HR := hW.2
  have hW := hW.1
  obtain ⟨pr, cr, hvr⟩ := h.r.shape
  subst hvr
  have HW := Lib.hid hW
  obtain ⟨p7, c7, hv7⟩ := (Row.of_owns hW.lf).shape
  subst hv7
  obtain ⟨p11, c11, hv11⟩ := (Row.of_owns hW.nm).shape
  subst hv11
  clear hL
  obtain ⟨p13, c13, hv13⟩ := HR.shape
  subst hv13
  clear hW HW HR
  generalize outK ts rs k.toNat = OO at *
  generalize 2 ^ (rN ts - k.toNat - 1) = N at *
  have e1 : wrap64 (((leftK ts rs k.toNat).length : Int) / 2) = (N : Int) := by rw [hlen]; unfold wrap64; omega
  clear l hlen
  generalize leftK ts rs k.toNat = LF at *
  generalize hq : (((wsAt rs k.toNat).length : Int) != (N : Int)) = q at *
  rw [fr_poR, show fr 1 = _ from q1, show fr 2 = _ from q2, show fr 7 = _ from q7, show fr 10 = _ from q10, show fr 11 = _ from q11, show fr 13 = _ from q13, show fr 48 = _ from q48, show fr 49 = _ from q49, show fr 50 = _ from q50]
  clear q1 q2 q7 q10 q11 q13 q48 q49 q50
  conv => arg 2; whnf
  go_wp2_with fail
  refine Met.intro (hS _ _ ?_)
  exact ⟨_, Fr.of _ rfl ⟨rfl, rfl, rfl, rfl, rfl, rfl, rfl, rfl, rfl, rfl, trivial⟩, rfl, HWR.out⟩

set_option maxRecDepth 100000 in
set_option maxHeartbeats 1000000 in
theorem pr18 (w0 : World) (gb : Nat) (vt vr : Value) (ts : List ByteArray) (rs : List (List ByteArray)) (h : QH w0 gb vt vr ts rs) (hg : SGood ts) (hL : (rs.length : Int) = roundsF ts.length) (k : Int) (v7 v11 : Value) (v13 : Value) (hk : 0 ≤ k ∧ k < rs.length) (hn : NoErr (rndK ts rs) k) : T3 Try.prog (fun a w => (QR w0 ts rs v7 v11 k w ∧ Row w 0 1 v13 (wsAt rs k.toNat).length (cellsOf encSt (wsAt rs k.toNat))) ∧ Fr 146 [(1, vr), (2, .pointer (some ⟨gb, 0, none⟩)), (7, v7), (10, .func (.func 64) #[] #[.pointer (some ⟨gb, 0, none⟩)]), (11, v11), (13, v13), (48, vr), (49, .int .i64 rs.length), (50, .int .i64 k)] a) (sel [1, 1, 1, 1, 1, 1, 1, 0, 1, 4, 4, 1, 1, 0, 4, 1, 0, 1, 2, 0] poR) (fun a w => (Below w0.heap.size w0 w) ∧ Fr 146 [(4, .slice none 0 0), (5, .int .i64 3)] a) No 9 (fun a w => ∃ v4 : Value, Fr 146 [(4, v4), (5, .int .i64 (playE ts rs))] a ∧ w.ownsRow w0.heap.size 9 1 v4 (playL ts rs).length (cellsOf encSt (playL ts rs)) ∧ Below w0.heap.size w0 w) := by
  refine T3.leaf ?_
  rintro Q JS JX JT K hS hK hX hE hT hR a w ⟨hW, ⟨fr, rfl, q1, q2, q7, q10, q11, q13, q48, q49, q50, _⟩⟩
  have HWR := Lib.hid hW
  have HR := hW.2
  have hW := hW.1
  obtain ⟨pr, cr, hvr⟩ := h.r.shape
  subst hvr
  have HW := Lib.hid hW
  obtain ⟨p7, c7, hv7⟩ := (Row.of_owns hW.lf).shape
  subst hv7
  obtain ⟨p11, c11, hv11⟩ := (Row.of_owns hW.nm).shape
  subst hv11
  clear hL
  obtain ⟨p13, c13, hv13⟩ := HR.shape
  subst hv13
  clear hW
  generalize leftK ts rs k.toNat = LF at *
  generalize outK ts rs k.toNat = OO at *
  generalize (wsAt rs k.toNat).length = WL at *
  rw [fr_poR, show fr 1 = _ from q1, show fr 2 = _ from q2, show fr 7 = _ from q7, show fr 10 = _ from q10, show fr 11 = _ from q11, show fr 13 = _ from q13, show fr 48 = _ from q48, show fr 49 = _ from q49, show fr 50 = _ from q50]
  clear q1 q2 q7 q10 q11 q13 q48 q49 q50
  conv => arg 2; whnf
  go_wp2_with fail
  refine Met.intro (hS _ _ ?_)
  exact ⟨HW.out.bel, Fr.of _ rfl ⟨rfl, rfl, trivial⟩⟩

set_option maxRecDepth 100000 in
set_option maxHeartbeats 1000000 in
theorem pr19 (w0 : World) (gb : Nat) (vt vr : Value) (ts : List ByteArray) (rs : List (List ByteArray)) (h : QH w0 gb vt vr ts rs) (hg : SGood ts) (hL : (rs.length : Int) = roundsF ts.length) (k : Int) (v7 v11 : Value) (v13 : Value) (hk : 0 ≤ k ∧ k < rs.length) (hn : NoErr (rndK ts rs) k) : T3 Try.prog (fun a w => (QR w0 ts rs v7 v11 k w ∧ Row w 0 1 v13 (wsAt rs k.toNat).length (cellsOf encSt (wsAt rs k.toNat))) ∧ Fr 146 [(1, vr), (2, .pointer (some ⟨gb, 0, none⟩)), (7, v7), (10, .func (.func 64) #[] #[.pointer (some ⟨gb, 0, none⟩)]), (11, v11), (13, v13), (48, vr), (49, .int .i64 rs.length), (50, .int .i64 k)] a) (sel [1, 1, 1, 1, 1, 1, 1, 0, 1, 4, 4, 1, 1, 0, 4, 1, 1, 0] poR) (fun a w => (QR w0 ts rs v7 v11 k w ∧ Row w 0 1 v13 (wsAt rs k.toNat).length (cellsOf encSt (wsAt rs k.toNat))) ∧ Fr 146 [(1, vr), (2, .pointer (some ⟨gb, 0, none⟩)), (7, v7), (10, .func (.func 64) #[] #[.pointer (some ⟨gb, 0, none⟩)]), (11, v11), (13, v13), (14, .slice none 0 0), (15, .slice none 0 0), (48, vr), (49, .int .i64 rs.length), (50, .int .i64 k)] a) No 9 (fun a w => ∃ v4 : Value, Fr 146 [(4, v4), (5, .int .i64 (playE ts rs))] a ∧ w.ownsRow w0.heap.size 9 1 v4 (playL ts rs).length (cellsOf encSt (playL ts rs)) ∧ Below w0.heap.size w0 w) := by
  refine T3.leaf ?_
  rintro Q JS JX JT K hS hK hX hE hT hR a w ⟨hW, ⟨fr, rfl, q1, q2, q7, q10, q11, q13, q48, q49, q50, _⟩⟩
  have HWR := Lib.hid hW
  have HR := hW.2
  have hW := hW.1
  obtain ⟨pr, cr, hvr⟩ := h.r.shape
  subst hvr
  have HW := Lib.hid hW
  obtain ⟨p7, c7, hv7⟩ := (Row.of_owns hW.lf).shape
  subst hv7
  obtain ⟨p11, c11, hv11⟩ := (Row.of_owns hW.nm).shape
  subst hv11
  clear hL
  obtain ⟨p13, c13, hv13⟩ := HR.shape
  subst hv13
  clear hW
  generalize leftK ts rs k.toNat = LF at *
  generalize outK ts rs k.toNat = OO at *
  generalize (wsAt rs k.toNat).length = WL at *
  rw [fr_poR, show fr 1 = _ from q1, show fr 2 = _ from q2, show fr 7 = _ from q7, show fr 10 = _ from q10, show fr 11 = _ from q11, show fr 13 = _ from q13, show fr 48 = _ from q48, show fr 49 = _ from q49, show fr 50 = _ from q50]
  clear q1 q2 q7 q10 q11 q13 q48 q49 q50
  conv => arg 2; whnf
  go_wp2_with fail
  refine Met.intro (hS _ _ ?_)
  exact ⟨HWR.out, Fr.of _ rfl ⟨rfl, rfl, rfl, rfl, rfl, rfl, rfl, rfl, rfl, rfl, rfl, trivial⟩⟩

theorem los_len (ts : List ByteArray) (rs : List (List ByteArray)) (k : Nat) : (losK ts rs k).length = (wsAt rs k).length := by simp [losK, losL]
set_option maxRecDepth 100000 in
set_option maxHeartbeats 1000000 in
theorem pr32 (w0 : World) (gb : Nat) (vt vr : Value) (ts : List ByteArray) (rs : List (List ByteArray)) (h : QH w0 gb vt vr ts rs) (hg : SGood ts) (hL : (rs.length : Int) = roundsF ts.length) (k : Int) (v7 v11 : Value) (v13 : Value) (hk : 0 ≤ k ∧ k < rs.length) (hn : NoErr (rndK ts rs) k) (w1 : World) (hq1 : QR w0 ts rs v7 v11 k w1) (vN vL : Value) : T3 Try.prog (fun a w => (Pr2 w1 w 3 vN vL (leftK ts rs (k + 1).toNat) (losK ts rs k.toNat)) ∧ Fr 146 [(1, vr), (2, .pointer (some ⟨gb, 0, none⟩)), (7, v7), (10, .func (.func 64) #[] #[.pointer (some ⟨gb, 0, none⟩)]), (11, v11), (14, vN), (15, vL), (48, vr), (49, .int .i64 rs.length), (50, .int .i64 k)] a) (sel [1, 1, 1, 1, 1, 1, 1, 0, 1, 4, 4, 1, 1, 0, 4, 1, 1, 1, 1, 0] poR) (fun a w => (Pr2 w1 w 3 vN vL (leftK ts rs (k + 1).toNat) (sortL (losK ts rs k.toNat))) ∧ Fr 146 [(1, vr), (2, .pointer (some ⟨gb, 0, none⟩)), (7, v7), (10, .func (.func 64) #[] #[.pointer (some ⟨gb, 0, none⟩)]), (11, v11), (14, vN), (15, vL), (48, vr), (49, .int .i64 rs.length), (50, .int .i64 k)] a) No 9 (fun a w => ∃ v4 : Value, Fr 146 [(4, v4), (5, .int .i64 (playE ts rs))] a ∧ w.ownsRow w0.heap.size 9 1 v4 (playL ts rs).length (cellsOf encSt (playL ts rs)) ∧ Below w0.heap.size w0 w) := by
  refine T3.leaf ?_
  rintro Q JS JX JT K hS hK hX hE hT hR a w ⟨hW, ⟨fr, rfl, q1, q2, q7, q10, q11, q14, q15, q48, q49, q50, _⟩⟩
  have hll := los_len ts rs k.toNat
  have hm := h.r.m k.toNat
  have hls := sortL_length (losK ts rs k.toNat)
  have HC := Lib.hid (sort_own vL _ _ _ w hW.rl (by omega))
  have HX := Lib.hid (fun w' L' ho g => Pr2.sort (w' := w') (L' := L') hW ho g)
  obtain ⟨pr, cr, hvr⟩ := h.r.shape
  subst hvr
  obtain ⟨p7, c7, hv7⟩ := (Row.of_owns hq1.lf).shape
  obtain ⟨p11, c11, hv11⟩ := (Row.of_owns hq1.nm).shape
  obtain ⟨pN, cN, hvN⟩ := (Row.of_owns hW.rw).shape
  obtain ⟨pL, cL, hvL⟩ := (Row.of_owns hW.rl).shape
  clear hq1 hL hn
  subst hv7
  subst hv11
  subst hvN
  subst hvL
  clear hW
  have HLN := Lib.hid (show (sortL (losK ts rs k.toNat)).length = (losK ts rs k.toNat).length by simp [sortL_length])
  clear hls hll hm
  generalize outK ts rs k.toNat = OO at *
  generalize leftK ts rs k.toNat = LF at *
  generalize leftK ts rs (k + 1).toNat = WW at *
  generalize losK ts rs k.toNat = LL at *
  rw [fr_poR, show fr 1 = _ from q1, show fr 2 = _ from q2, show fr 7 = _ from q7, show fr 10 = _ from q10, show fr 11 = _ from q11, show fr 14 = _ from q14, show fr 15 = _ from q15, show fr 48 = _ from q48, show fr 49 = _ from q49, show fr 50 = _ from q50]
  clear q1 q2 q7 q10 q11 q14 q15 q48 q49 q50
  conv => arg 2; whnf
  go_wp2_with fail
  refine HC.out.mono ?_
  rintro e w2 ⟨rfl, ho, g⟩
  have hR := Lib.hid (HX.out w2 _ (by rw [HLN.out]; exact ho) g)
  clear ho g
  go_wp2_with fail
  refine Met.intro (hS _ _ ?_)
  exact ⟨hR.out, Fr.of _ rfl ⟨rfl, rfl, rfl, rfl, rfl, rfl, rfl, rfl, rfl, rfl, trivial⟩⟩

set_option maxRecDepth 100000 in
set_option maxHeartbeats 1000000 in
theorem pr33 (w0 : World) (gb : Nat) (vt vr : Value) (ts : List ByteArray) (rs : List (List ByteArray)) (h : QH w0 gb vt vr ts rs) (hg : SGood ts) (hL : (rs.length : Int) = roundsF ts.length) (k : Int) (v7 v11 : Value) (v13 : Value) (hk : 0 ≤ k ∧ k < rs.length) (hn : NoErr (rndK ts rs) k) (w1 : World) (hq1 : QR w0 ts rs v7 v11 k w1) (vN vL : Value) : T3 Try.prog (fun a w => (Pr2 w1 w 3 vN vL (leftK ts rs (k + 1).toNat) (sortL (losK ts rs k.toNat))) ∧ Fr 146 [(1, vr), (2, .pointer (some ⟨gb, 0, none⟩)), (7, v7), (10, .func (.func 64) #[] #[.pointer (some ⟨gb, 0, none⟩)]), (11, v11), (14, vN), (15, vL), (48, vr), (49, .int .i64 rs.length), (50, .int .i64 k)] a) (sel [1, 1, 1, 1, 1, 1, 1, 0, 1, 4, 4, 1, 1, 0, 4, 1, 1, 1, 1, 1, 0] poR) (fun a w => (Pr2 w1 w 3 vN vL (leftK ts rs (k + 1).toNat) (sortL (losK ts rs k.toNat)).reverse) ∧ Fr 146 [(1, vr), (2, .pointer (some ⟨gb, 0, none⟩)), (7, v7), (10, .func (.func 64) #[] #[.pointer (some ⟨gb, 0, none⟩)]), (11, v11), (14, vN), (15, vL), (48, vr), (49, .int .i64 rs.length), (50, .int .i64 k)] a) No 9 (fun a w => ∃ v4 : Value, Fr 146 [(4, v4), (5, .int .i64 (playE ts rs))] a ∧ w.ownsRow w0.heap.size 9 1 v4 (playL ts rs).length (cellsOf encSt (playL ts rs)) ∧ Below w0.heap.size w0 w) := by
  refine T3.leaf ?_
  rintro Q JS JX JT K hS hK hX hE hT hR a w ⟨hW, ⟨fr, rfl, q1, q2, q7, q10, q11, q14, q15, q48, q49, q50, _⟩⟩
  have hll := los_len ts rs k.toNat
  have hm := h.r.m k.toNat
  have hls := sortL_length (losK ts rs k.toNat)
  have HC := Lib.hid (rev_own vL _ _ _ w hW.rl (by omega))
  have HX := Lib.hid (fun w' L' ho g => Pr2.sort (w' := w') (L' := L') hW ho g)
  obtain ⟨pr, cr, hvr⟩ := h.r.shape
  subst hvr
  obtain ⟨p7, c7, hv7⟩ := (Row.of_owns hq1.lf).shape
  obtain ⟨p11, c11, hv11⟩ := (Row.of_owns hq1.nm).shape
  obtain ⟨pN, cN, hvN⟩ := (Row.of_owns hW.rw).shape
  obtain ⟨pL, cL, hvL⟩ := (Row.of_owns hW.rl).shape
  clear hq1 hL hn
  subst hv7
  subst hv11
  subst hvN
  subst hvL
  clear hW
  have HLN := Lib.hid (show ((sortL (losK ts rs k.toNat)).reverse).length = (sortL (losK ts rs k.toNat)).length by simp [sortL_length])
  clear hls hll hm
  generalize outK ts rs k.toNat = OO at *
  generalize leftK ts rs k.toNat = LF at *
  generalize leftK ts rs (k + 1).toNat = WW at *
  generalize losK ts rs k.toNat = LL at *
  generalize hSL : sortL LL = SL at *
  rw [fr_poR, show fr 1 = _ from q1, show fr 2 = _ from q2, show fr 7 = _ from q7, show fr 10 = _ from q10, show fr 11 = _ from q11, show fr 14 = _ from q14, show fr 15 = _ from q15, show fr 48 = _ from q48, show fr 49 = _ from q49, show fr 50 = _ from q50]
  clear q1 q2 q7 q10 q11 q14 q15 q48 q49 q50
  conv => arg 2; whnf
  go_wp2_with fail
  refine HC.out.mono ?_
  rintro e w2 ⟨rfl, ho, g⟩
  have hR := Lib.hid (HX.out w2 _ (by rw [HLN.out]; exact ho) g)
  clear ho g
  go_wp2_with fail
  refine Met.intro (hS _ _ ?_)
  exact ⟨hR.out, Fr.of _ rfl ⟨rfl, rfl, rfl, rfl, rfl, rfl, rfl, rfl, rfl, rfl, trivial⟩⟩

end Go.Proofs.Ytkdimgghljklmaa
/-
  Finals: a bracket that is played, the reference's PlayOf: the names of those who fell in a round. Conditions: strings are no longer than Go's; at most 1000 seeds, rounds and names.
-/
set_option linter.unusedVariables false
namespace Go.Proofs.Ytkdimgghljklmaa
open Go.RowKit Go.Bw
/-- Winners, losers and the names so far. -/
structure QN (w0 : World) (ts : List ByteArray) (vN vL v11 : Value) (W L O : List Int) (w : World) : Prop where
  bel : Below w0.heap.size w0 w
  nw : w.ownsRow w0.heap.size 3 1 vN W.length (W.map (.int .i64))
  ls : w.ownsRow w0.heap.size 3 1 vL L.length (L.map (.int .i64))
  nm : w.ownsRow w0.heap.size 9 1 v11 O.length (cellsOf encSt (namesI ts O))
theorem QN.of {w0 w1 w : World} {ts : List ByteArray} {rs : List (List ByteArray)} {v7 v11 vN vL : Value} {k : Int} {W L : List Int} (h : QR w0 ts rs v7 v11 k w1) (p : Pr2 w1 w 3 vN vL W L) : QN w0 ts vN vL v11 W L (outK ts rs k.toNat) w :=
  ⟨h.bel.trans (p.bel.mono h.bel.size), owns_mono p.rw h.bel.size, owns_mono p.rl h.bel.size, owns_below h.nm p.bel (Nat.le_refl _)⟩
theorem QN.app {w0 w w' : World} {ts : List ByteArray} {vN vL v11 v' : Value} {W L O : List Int} (h : QN w0 ts vN vL v11 W L O w) {x : Int} (ho : w'.ownsRow w0.heap.size 9 1 v' (O.length + 1) (cellsOf encSt (namesI ts O) ++ [.string (geta ts x)])) (g : w.grownBy w' v11.ownBlock) : QN w0 ts vN vL v' W L (O ++ [x]) w' := by
  refine ⟨h.bel.grown g h.bel.size (fun k hk => (h.nm.lt k hk).1), own_app h.nw h.nm (by decide) g, own_app h.ls h.nm (by decide) g, ?_⟩
  rw [namesI_snoc, cellsOf_snoc, List.length_append]
  exact ho
theorem QN.alloc {w0 w : World} {ts : List ByteArray} {vN vL v11 : Value} {W L O : List Int} (h : QN w0 ts vN vL v11 W L O w) (ob : Obj) : QN w0 ts vN vL v11 W L O (w.alloc ob) :=
  ⟨h.bel.alloc h.bel.size ob, h.nw.alloc ob, h.ls.alloc ob, h.nm.alloc ob⟩
theorem los_pos {ts : List ByteArray} {rs : List (List ByteArray)} {k N : Nat} (l : LOk ts (leftK ts rs k) N) (pn : PyN (wsAt rs k) N) : ∀ x ∈ (sortL (losK ts rs k)).reverse, 0 ≤ x := by
  intro x hx
  rw [List.mem_reverse, sortL_mem] at hx
  unfold losK losL at hx
  simp only [List.mem_map, List.mem_range] at hx
  obtain ⟨j, hj, rfl⟩ := hx
  have hlen := l.len
  have hlo := pn.lo
  have a0 := l.a0 (2 * (j : Int)) (by omega) (by omega)
  have b0 := l.a0 (2 * (j : Int) + 1) (by omega) (by omega)
  show 0 ≤ losG _ _ _ _
  unfold losG
  split
  · exact b0
  · exact a0
set_option maxRecDepth 100000 in
set_option maxHeartbeats 1000000 in
theorem pn34 (w0 : World) (gb : Nat) (vt vr : Value) (ts : List ByteArray) (rs : List (List ByteArray)) (h : QH w0 gb vt vr ts rs) (kx : Int) (vN vL : Value) (LL OO WW : List Int) (hLL : LL.length ≤ 1000) (hOO : OO.length ≤ 1000000) (hl0 : ∀ x ∈ LL, 0 ≤ x) (v11 : Value) : T3 Try.prog (fun a w => (QN w0 ts vN vL v11 WW LL OO w) ∧ Fr 146 [(1, vr), (2, .pointer (some ⟨gb, 0, none⟩)), (10, .func (.func 64) #[] #[.pointer (some ⟨gb, 0, none⟩)]), (11, v11), (14, vN), (15, vL), (48, vr), (49, .int .i64 rs.length), (50, .int .i64 kx)] a) (sel [1, 1, 1, 1, 1, 1, 1, 0, 1, 4, 4, 1, 1, 0, 4, 1, 1, 1, 1, 1, 1, 0, 0] poR) (fun a w => (0 ≤ (0 : Int) ∧ (0 : Int) ≤ LL.length) ∧ ∃ (v11 : Value), (QN w0 ts vN vL v11 WW LL (OO ++ realL ts.length (LL.take (0 : Int).toNat)) w) ∧ Fr 146 [(1, vr), (2, .pointer (some ⟨gb, 0, none⟩)), (10, .func (.func 64) #[] #[.pointer (some ⟨gb, 0, none⟩)]), (11, v11), (14, vN), (48, vr), (49, .int .i64 rs.length), (50, .int .i64 kx), (114, vL), (115, .int .i64 LL.length), (116, .int .i64 0)] a) No 9 (fun a w => ∃ v4 : Value, Fr 146 [(4, v4), (5, .int .i64 (playE ts rs))] a ∧ w.ownsRow w0.heap.size 9 1 v4 (playL ts rs).length (cellsOf encSt (playL ts rs)) ∧ Below w0.heap.size w0 w) := by
  refine T3.leaf ?_
  rintro Q JS JX JT K hS hK hX hE hT hR a w ⟨hW, ⟨fr, rfl, q1, q2, q10, q11, q14, q15, q48, q49, q50, _⟩⟩
  obtain ⟨pr, cr, hvr⟩ := h.r.shape
  subst hvr
  have HW := Lib.hid hW
  obtain ⟨pN, cN, hvN⟩ := (Row.of_owns hW.nw).shape
  obtain ⟨pL, cL, hvL⟩ := (Row.of_owns hW.ls).shape
  obtain ⟨p11, c11, hv11⟩ := (Row.of_owns hW.nm).shape
  subst hvN
  subst hvL
  subst hv11
  have HZ := Lib.hid (show OO ++ realL ts.length (LL.take (0 : Int).toNat) = OO by simp [realL])
  clear hW
  rw [fr_poR, show fr 1 = _ from q1, show fr 2 = _ from q2, show fr 10 = _ from q10, show fr 11 = _ from q11, show fr 14 = _ from q14, show fr 15 = _ from q15, show fr 48 = _ from q48, show fr 49 = _ from q49, show fr 50 = _ from q50]
  clear q1 q2 q10 q11 q14 q15 q48 q49 q50
  conv => arg 2; whnf
  go_wp2_with fail
  refine Met.intro (hS _ _ ?_)
  exact ⟨⟨by omega, by omega⟩, _, by rw [HZ.out]; exact HW.out, Fr.of _ rfl ⟨rfl, rfl, rfl, rfl, rfl, rfl, rfl, rfl, rfl, rfl, rfl, trivial⟩⟩

set_option maxRecDepth 100000 in
set_option maxHeartbeats 1000000 in
theorem pn36 (w0 : World) (gb : Nat) (vt vr : Value) (ts : List ByteArray) (rs : List (List ByteArray)) (h : QH w0 gb vt vr ts rs) (kx : Int) (vN vL : Value) (LL OO WW : List Int) (hLL : LL.length ≤ 1000) (hOO : OO.length ≤ 1000000) (hl0 : ∀ x ∈ LL, 0 ≤ x) (k : Int) : T3 Try.prog (fun a w => ∃ (v11 : Value), (0 ≤ k ∧ k < LL.length) ∧ (QN w0 ts vN vL v11 WW LL (OO ++ realL ts.length (LL.take (k : Int).toNat)) w) ∧ Fr 146 [(1, vr), (2, .pointer (some ⟨gb, 0, none⟩)), (10, .func (.func 64) #[] #[.pointer (some ⟨gb, 0, none⟩)]), (11, v11), (14, vN), (48, vr), (49, .int .i64 rs.length), (50, .int .i64 kx), (114, vL), (115, .int .i64 LL.length), (116, .int .i64 k)] a) (sel [1, 1, 1, 1, 1, 1, 1, 0, 1, 4, 4, 1, 1, 0, 4, 1, 1, 1, 1, 1, 1, 0, 1, 4, 4, 1, 1, 0, 4, 0] poR) (fun a w => ∃ (v11 : Value), (0 ≤ k ∧ k < LL.length) ∧ (QN w0 ts vN vL v11 WW LL (OO ++ realL ts.length (LL.take (k : Int).toNat)) w) ∧ Fr 146 [(1, vr), (2, .pointer (some ⟨gb, 0, none⟩)), (10, .func (.func 64) #[] #[.pointer (some ⟨gb, 0, none⟩)]), (11, v11), (14, vN), (21, .int .i64 (geti LL k)), (48, vr), (49, .int .i64 rs.length), (50, .int .i64 kx), (114, vL), (115, .int .i64 LL.length), (116, .int .i64 k)] a) No 9 (fun a w => ∃ v4 : Value, Fr 146 [(4, v4), (5, .int .i64 (playE ts rs))] a ∧ w.ownsRow w0.heap.size 9 1 v4 (playL ts rs).length (cellsOf encSt (playL ts rs)) ∧ Below w0.heap.size w0 w) := by
  refine T3.leaf ?_
  rintro Q JS JX JT K hS hK hX hE hT hR a w ⟨v11, hpre, hW, ⟨fr, rfl, q1, q2, q10, q11, q14, q48, q49, q50, q114, q115, q116, _⟩⟩
  have hpp := Lib.hid hpre
  obtain ⟨hk0, hk1⟩ := hpre
  obtain ⟨_, hcs⟩ := (Row.of_owns hW.ls).ints
  obtain ⟨pr, cr, hvr⟩ := h.r.shape
  subst hvr
  have HW := Lib.hid hW
  obtain ⟨pN, cN, hvN⟩ := (Row.of_owns hW.nw).shape
  obtain ⟨p11, c11, hv11⟩ := (Row.of_owns hW.nm).shape
  subst hvN
  subst hv11
  rcases hcs with ⟨rfl, h0⟩ | ⟨bz, off, cap, rfl, _, hbz, hnc, hcm, hcell⟩
  · omega
  have t0 := hcell k hk0 hk1
  clear hcell hW
  generalize OO ++ realL ts.length (LL.take k.toNat) = O1 at *
  rw [fr_poR, show fr 1 = _ from q1, show fr 2 = _ from q2, show fr 10 = _ from q10, show fr 11 = _ from q11, show fr 14 = _ from q14, show fr 48 = _ from q48, show fr 49 = _ from q49, show fr 50 = _ from q50, show fr 114 = _ from q114, show fr 115 = _ from q115, show fr 116 = _ from q116]
  clear q1 q2 q10 q11 q14 q48 q49 q50 q114 q115 q116
  conv => arg 2; whnf
  go_wp2_with fail
  refine Met.intro (hS _ _ ?_)
  exact ⟨_, hpp.out, HW.out, Fr.of _ rfl ⟨rfl, rfl, rfl, rfl, rfl, rfl, rfl, rfl, rfl, rfl, rfl, rfl, trivial⟩⟩

set_option maxRecDepth 100000 in
set_option maxHeartbeats 1000000 in
theorem pn37 (w0 : World) (gb : Nat) (vt vr : Value) (ts : List ByteArray) (rs : List (List ByteArray)) (h : QH w0 gb vt vr ts rs) (kx : Int) (vN vL : Value) (LL OO WW : List Int) (hLL : LL.length ≤ 1000) (hOO : OO.length ≤ 1000000) (hl0 : ∀ x ∈ LL, 0 ≤ x) (k : Int) (v11 : Value) : T3 Try.prog (fun a w => (0 ≤ k ∧ k < LL.length) ∧ (QN w0 ts vN vL v11 WW LL (OO ++ realL ts.length (LL.take (k : Int).toNat)) w) ∧ Fr 146 [(1, vr), (2, .pointer (some ⟨gb, 0, none⟩)), (10, .func (.func 64) #[] #[.pointer (some ⟨gb, 0, none⟩)]), (11, v11), (14, vN), (21, .int .i64 (geti LL k)), (48, vr), (49, .int .i64 rs.length), (50, .int .i64 kx), (114, vL), (115, .int .i64 LL.length), (116, .int .i64 k)] a) (sel [1, 1, 1, 1, 1, 1, 1, 0, 1, 4, 4, 1, 1, 0, 4, 1, 1, 1, 1, 1, 1, 0, 1, 4, 4, 1, 1, 0, 4, 1, 0] poR) (fun a w => ∃ q, Fr 146 ((123, .bool q) :: [(1, vr), (2, .pointer (some ⟨gb, 0, none⟩)), (10, .func (.func 64) #[] #[.pointer (some ⟨gb, 0, none⟩)]), (11, v11), (14, vN), (21, .int .i64 (geti LL k)), (48, vr), (49, .int .i64 rs.length), (50, .int .i64 kx), (114, vL), (115, .int .i64 LL.length), (116, .int .i64 k)]) a ∧ (((0 ≤ k ∧ k < LL.length) ∧ q = decide (geti LL k < (ts.length : Int))) ∧ QN w0 ts vN vL v11 WW LL (OO ++ realL ts.length (LL.take (k : Int).toNat)) w)) No 9 (fun a w => ∃ v4 : Value, Fr 146 [(4, v4), (5, .int .i64 (playE ts rs))] a ∧ w.ownsRow w0.heap.size 9 1 v4 (playL ts rs).length (cellsOf encSt (playL ts rs)) ∧ Below w0.heap.size w0 w) := by
  refine T3.leaf ?_
  rintro Q JS JX JT K hS hK hX hE hT hR a w ⟨hpre, hW, ⟨fr, rfl, q1, q2, q10, q11, q14, q21, q48, q49, q50, q114, q115, q116, _⟩⟩
  have xc := h.cell hW.bel
  obtain ⟨p1, c1, hv1⟩ := h.s.t.shape
  subst hv1
  obtain ⟨pr, cr, hvr⟩ := h.r.shape
  subst hvr
  have HW := Lib.hid hW
  obtain ⟨pN, cN, hvN⟩ := (Row.of_owns hW.nw).shape
  obtain ⟨pL, cL, hvL⟩ := (Row.of_owns hW.ls).shape
  obtain ⟨p11, c11, hv11⟩ := (Row.of_owns hW.nm).shape
  subst hvN
  subst hvL
  subst hv11
  clear hW
  generalize OO ++ realL ts.length (LL.take k.toNat) = O1 at *
  generalize geti LL k = x at *
  rw [fr_poR, show fr 1 = _ from q1, show fr 2 = _ from q2, show fr 10 = _ from q10, show fr 11 = _ from q11, show fr 14 = _ from q14, show fr 21 = _ from q21, show fr 48 = _ from q48, show fr 49 = _ from q49, show fr 50 = _ from q50, show fr 114 = _ from q114, show fr 115 = _ from q115, show fr 116 = _ from q116]
  clear q1 q2 q10 q11 q14 q21 q48 q49 q50 q114 q115 q116
  conv => arg 2; whnf
  go_wp2_with fail
  refine Met.intro (hS _ _ ?_)
  exact ⟨_, Fr.of _ rfl ⟨rfl, rfl, rfl, rfl, rfl, rfl, rfl, rfl, rfl, rfl, rfl, rfl, rfl, trivial⟩, ⟨hpre, rfl⟩, HW.out⟩

set_option maxRecDepth 100000 in
set_option maxHeartbeats 1000000 in
theorem pn38 (w0 : World) (gb : Nat) (vt vr : Value) (ts : List ByteArray) (rs : List (List ByteArray)) (h : QH w0 gb vt vr ts rs) (kx : Int) (vN vL : Value) (LL OO WW : List Int) (hLL : LL.length ≤ 1000) (hOO : OO.length ≤ 1000000) (hl0 : ∀ x ∈ LL, 0 ≤ x) (k : Int) (v11 : Value) (hk : 0 ≤ k ∧ k < LL.length) (hx : geti LL k < ts.length) : T3 Try.prog (fun a w => (QN w0 ts vN vL v11 WW LL (OO ++ realL ts.length (LL.take (k : Int).toNat)) w) ∧ Fr 146 [(1, vr), (2, .pointer (some ⟨gb, 0, none⟩)), (10, .func (.func 64) #[] #[.pointer (some ⟨gb, 0, none⟩)]), (11, v11), (14, vN), (21, .int .i64 (geti LL k)), (48, vr), (49, .int .i64 rs.length), (50, .int .i64 kx), (114, vL), (115, .int .i64 LL.length), (116, .int .i64 k)] a) (sel [1, 1, 1, 1, 1, 1, 1, 0, 1, 4, 4, 1, 1, 0, 4, 1, 1, 1, 1, 1, 1, 0, 1, 4, 4, 1, 1, 0, 4, 1, 1, 2] poR) (fun a w => ∃ (v11 : Value), (QN w0 ts vN vL v11 WW LL (OO ++ realL ts.length (LL.take ((k + 1) : Int).toNat)) w) ∧ Fr 146 [(1, vr), (2, .pointer (some ⟨gb, 0, none⟩)), (10, .func (.func 64) #[] #[.pointer (some ⟨gb, 0, none⟩)]), (11, v11), (14, vN), (48, vr), (49, .int .i64 rs.length), (50, .int .i64 kx), (114, vL), (115, .int .i64 LL.length), (116, .int .i64 k)] a) No 9 (fun a w => ∃ v4 : Value, Fr 146 [(4, v4), (5, .int .i64 (playE ts rs))] a ∧ w.ownsRow w0.heap.size 9 1 v4 (playL ts rs).length (cellsOf encSt (playL ts rs)) ∧ Below w0.heap.size w0 w) := by
  refine T3.leaf ?_
  rintro Q JS JX JT K hS hK hX hE hT hR a w ⟨hW, ⟨fr, rfl, q1, q2, q10, q11, q14, q21, q48, q49, q50, q114, q115, q116, _⟩⟩
  have Hs := Lib.hid (show OO ++ realL ts.length (LL.take (k + 1).toNat) = (OO ++ realL ts.length (LL.take k.toNat)) ++ [geti LL k] by rw [takeO_succ LL k hk.1 hk.2, realL_yes _ _ _ hx, List.append_assoc])
  have hx0 := hl0 _ (geti_mem hk.1 hk.2)
  have htn := h.s.tn
  have htk : (OO ++ realL ts.length (LL.take k.toNat)).length ≤ 1001000 := by
    rw [List.length_append]
    have : (realL ts.length (LL.take k.toNat)).length ≤ (LL.take k.toNat).length := List.length_filter_le _ _
    rw [List.length_take] at this
    omega
  have HA := Lib.hid (fun w' v' => QN.app (w' := w') (v' := v') (x := geti LL k) (hW.alloc (.cells #[.string (geta ts (geti LL k))] 9)))
  have HNM := hW.nm
  have xc := h.cell hW.bel
  obtain ⟨_, hcs⟩ := (h.s.t.below hW.bel).els encSt_length (by decide)
  have hEL := el_strs
  have hbs := hW.bel.size
  obtain ⟨pr, cr, hvr⟩ := h.r.shape
  subst hvr
  have HW := Lib.hid hW
  obtain ⟨pN, cN, hvN⟩ := (Row.of_owns hW.nw).shape
  obtain ⟨pL, cL, hvL⟩ := (Row.of_owns hW.ls).shape
  obtain ⟨p11, c11, hv11⟩ := (Row.of_owns hW.nm).shape
  subst hvN
  subst hvL
  subst hv11
  rcases hcs with ⟨rfl, h0⟩ | ⟨bz, off, cap, rfl, _, hbz, hnc, hcm, hcell⟩
  · omega
  have t0 := hcell (geti LL k) (by omega) (by omega) 0 _ rfl
  rw [Nat.mul_one, Nat.add_zero] at t0
  clear hcell hW hl0
  generalize geti LL k = x at *
  generalize OO ++ realL ts.length (LL.take k.toNat) = O1 at *
  generalize OO ++ realL ts.length (LL.take (k + 1).toNat) = O2 at *
  generalize hnm : geta ts x = nm at *
  clear hnm
  rw [fr_poR, show fr 1 = _ from q1, show fr 2 = _ from q2, show fr 10 = _ from q10, show fr 11 = _ from q11, show fr 14 = _ from q14, show fr 21 = _ from q21, show fr 48 = _ from q48, show fr 49 = _ from q49, show fr 50 = _ from q50, show fr 114 = _ from q114, show fr 115 = _ from q115, show fr 116 = _ from q116]
  clear q1 q2 q10 q11 q14 q21 q48 q49 q50 q114 q115 q116
  conv => arg 2; whnf
  go_wp2_with (at_builtin; refine app_law rfl _ _ _ rfl hEL (HNM.alloc _) rfl [.string nm] rfl rfl (cells_new w #[_] _) (by simp [Value.oneCell']) (by omega) (by simp; omega) ?_; intro v' w3 hown3 hgr)
  refine Met.intro (hS _ _ ?_)
  have := HA.out w3 v' hown3 hgr
  refine ⟨v', ?_, Fr.of _ rfl ⟨rfl, rfl, rfl, rfl, rfl, rfl, rfl, rfl, rfl, rfl, rfl, trivial⟩⟩
  rw [Hs.out]
  exact this

set_option maxRecDepth 100000 in
set_option maxHeartbeats 1000000 in
theorem pnb (w0 : World) (gb : Nat) (vt vr : Value) (ts : List ByteArray) (rs : List (List ByteArray)) (h : QH w0 gb vt vr ts rs) (kx : Int) (vN vL : Value) (LL OO WW : List Int) (hLL : LL.length ≤ 1000) (hOO : OO.length ≤ 1000000) (hl0 : ∀ x ∈ LL, 0 ≤ x) (k : Int) : T3 Try.prog (fun a w => ∃ (v11 : Value), (0 ≤ k ∧ k < LL.length) ∧ (QN w0 ts vN vL v11 WW LL (OO ++ realL ts.length (LL.take (k : Int).toNat)) w) ∧ Fr 146 [(1, vr), (2, .pointer (some ⟨gb, 0, none⟩)), (10, .func (.func 64) #[] #[.pointer (some ⟨gb, 0, none⟩)]), (11, v11), (14, vN), (48, vr), (49, .int .i64 rs.length), (50, .int .i64 kx), (114, vL), (115, .int .i64 LL.length), (116, .int .i64 k)] a) (sel [1, 1, 1, 1, 1, 1, 1, 0, 1, 4, 4, 1, 1, 0, 4, 1, 1, 1, 1, 1, 1, 0, 1, 4, 4, 1, 1, 0] poR) (fun a w => ∃ (v11 : Value), (0 ≤ k ∧ k < LL.length) ∧ (QN w0 ts vN vL v11 WW LL (OO ++ realL ts.length (LL.take ((k + 1) : Int).toNat)) w) ∧ Fr 146 [(1, vr), (2, .pointer (some ⟨gb, 0, none⟩)), (10, .func (.func 64) #[] #[.pointer (some ⟨gb, 0, none⟩)]), (11, v11), (14, vN), (48, vr), (49, .int .i64 rs.length), (50, .int .i64 kx), (114, vL), (115, .int .i64 LL.length), (116, .int .i64 k)] a) No 100 (fun a w => ∃ v4 : Value, Fr 146 [(4, v4), (5, .int .i64 (playE ts rs))] a ∧ w.ownsRow w0.heap.size 9 1 v4 (playL ts rs).length (cellsOf encSt (playL ts rs)) ∧ Below w0.heap.size w0 w) := by
  refine T3.block (id' := 8) (c := (sel [1, 1, 1, 1, 1, 1, 1, 0, 1, 4, 4, 1, 1, 0, 4, 1, 1, 1, 1, 1, 1, 0, 1, 4, 4, 1, 1, 0, 4] poR)) (by decide) ?_
  refine T3.seq (s := (sel [1, 1, 1, 1, 1, 1, 1, 0, 1, 4, 4, 1, 1, 0, 4, 1, 1, 1, 1, 1, 1, 0, 1, 4, 4, 1, 1, 0, 4, 0] poR)) (c := (sel [1, 1, 1, 1, 1, 1, 1, 0, 1, 4, 4, 1, 1, 0, 4, 1, 1, 1, 1, 1, 1, 0, 1, 4, 4, 1, 1, 0, 4, 1] poR)) ((pn36 w0 gb vt vr ts rs h kx vN vL LL OO WW hLL hOO hl0 k).noX) (T3.ex fun v11 => ?_)
  refine T3.test (s := (sel [1, 1, 1, 1, 1, 1, 1, 0, 1, 4, 4, 1, 1, 0, 4, 1, 1, 1, 1, 1, 1, 0, 1, 4, 4, 1, 1, 0, 4, 1, 0] poR)) (x := (sel [1, 1, 1, 1, 1, 1, 1, 0, 1, 4, 4, 1, 1, 0, 4, 1, 1, 1, 1, 1, 1, 0, 1, 4, 4, 1, 1, 0, 4, 1, 1, 2] poR)) (y := .skip) (C := fun q => ((0 ≤ k ∧ k < LL.length) ∧ q = decide (geti LL k < (ts.length : Int)))) (W := fun w => QN w0 ts vN vL v11 WW LL (OO ++ realL ts.length (LL.take (k : Int).toNat)) w) (by decide) ((pn37 w0 gb vt vr ts rs h kx vN vL LL OO WW hLL hOO hl0 k v11).noX) ?_ (T3.skip ?_)
  · refine T3.pre (R := fun a w => ((0 ≤ k ∧ k < LL.length) ∧ geti LL k < (ts.length : Int)) ∧ (QN w0 ts vN vL v11 WW LL (OO ++ realL ts.length (LL.take (k : Int).toNat)) w) ∧ Fr 146 [(1, vr), (2, .pointer (some ⟨gb, 0, none⟩)), (10, .func (.func 64) #[] #[.pointer (some ⟨gb, 0, none⟩)]), (11, v11), (14, vN), (21, .int .i64 (geti LL k)), (48, vr), (49, .int .i64 rs.length), (50, .int .i64 kx), (114, vL), (115, .int .i64 LL.length), (116, .int .i64 k)] a) (T3.pure fun hp => ((pn38 w0 gb vt vr ts rs h kx vN vL LL OO WW hLL hOO hl0 k v11 hp.1 hp.2).noX).post ?_) ?_
    · rintro a w ⟨v11, hW, hF⟩
      exact ⟨v11, hp.1, hW, hF⟩
    · rintro a w ⟨hF, ⟨hk, hq⟩, hW⟩
      exact ⟨⟨hk, of_decide_eq_true hq.symm⟩, hW, hF.tail⟩
  · rintro a w ⟨⟨hk, hq⟩, hW, hF⟩
    refine ⟨v11, hk, ?_, hF.sub (by simp)⟩
    have hx := of_decide_eq_false hq.symm
    rw [takeO_succ LL k hk.1 hk.2, realL_no _ _ _ hx]
    exact hW

def pnI (w0 : World) (gb : Nat) (vt vr : Value) (ts : List ByteArray) (rs : List (List ByteArray)) (h : QH w0 gb vt vr ts rs) (kx : Int) (vN vL : Value) (LL OO WW : List Int) (hLL : LL.length ≤ 1000) (hOO : OO.length ≤ 1000000) (hl0 : ∀ x ∈ LL, 0 ≤ x) (k : Int) (a : Act) (w : World) : Prop := (0 ≤ k ∧ k ≤ LL.length) ∧ ∃ (v11 : Value), (QN w0 ts vN vL v11 WW LL (OO ++ realL ts.length (LL.take (k : Int).toNat)) w) ∧ Fr 146 [(1, vr), (2, .pointer (some ⟨gb, 0, none⟩)), (10, .func (.func 64) #[] #[.pointer (some ⟨gb, 0, none⟩)]), (11, v11), (14, vN), (48, vr), (49, .int .i64 rs.length), (50, .int .i64 kx), (114, vL), (115, .int .i64 LL.length), (116, .int .i64 k)] a
set_option maxRecDepth 100000 in
set_option maxHeartbeats 1000000 in
theorem pnt (w0 : World) (gb : Nat) (vt vr : Value) (ts : List ByteArray) (rs : List (List ByteArray)) (h : QH w0 gb vt vr ts rs) (kx : Int) (vN vL : Value) (LL OO WW : List Int) (hLL : LL.length ≤ 1000) (hOO : OO.length ≤ 1000000) (hl0 : ∀ x ∈ LL, 0 ≤ x) (k : Int) : T3 Try.prog (fun a w => pnI w0 gb vt vr ts rs h kx vN vL LL OO WW hLL hOO hl0 k a w) (sel [1, 1, 1, 1, 1, 1, 1, 0, 1, 4, 4, 1, 1, 0, 4, 1, 1, 1, 1, 1, 1, 0, 1, 4, 4, 0] poR) (fun a w => ∃ q, Fr 146 ((117, .bool q) :: [(116, .int .i64 k)]) a ∧ ((q = true ↔ k < LL.length) ∧ pnI w0 gb vt vr ts rs h kx vN vL LL OO WW hLL hOO hl0 k a w)) No 9 (fun a w => ∃ v4 : Value, Fr 146 [(4, v4), (5, .int .i64 (playE ts rs))] a ∧ w.ownsRow w0.heap.size 9 1 v4 (playL ts rs).length (cellsOf encSt (playL ts rs)) ∧ Below w0.heap.size w0 w) := by
  refine T3.leaf ?_
  rintro Q JS JX JT K hS hK hX hE hT hR a w ⟨hk, v11, hW, ⟨fr, rfl, q1, q2, q10, q11, q14, q48, q49, q50, q114, q115, q116, _⟩⟩
  rw [fr_poR, show fr 1 = _ from q1, show fr 2 = _ from q2, show fr 10 = _ from q10, show fr 11 = _ from q11, show fr 14 = _ from q14, show fr 48 = _ from q48, show fr 49 = _ from q49, show fr 50 = _ from q50, show fr 114 = _ from q114, show fr 115 = _ from q115, show fr 116 = _ from q116]
  clear q1 q2 q10 q11 q14 q48 q49 q50 q114 q115 q116
  conv => arg 2; whnf
  by_cases hlt : k < LL.length
  · go_wp2_with fail
    refine Met.intro (hS _ _ ?_)
    exact ⟨true, Fr.of _ rfl ⟨rfl, rfl, trivial⟩, ⟨fun _ => hlt, fun _ => rfl⟩, hk, v11, hW, Fr.of _ rfl ⟨rfl, rfl, rfl, rfl, rfl, rfl, rfl, rfl, rfl, rfl, rfl, trivial⟩⟩
  · have hpb : decide (k < (LL.length : Int)) = false := by simp; omega
    go_wp2_with fail
    refine Met.intro (hS _ _ ?_)
    exact ⟨false, Fr.of _ rfl ⟨rfl, rfl, trivial⟩, ⟨(fun h => by cases h), fun h => absurd h (by omega)⟩, hk, v11, hW, Fr.of _ rfl ⟨rfl, rfl, rfl, rfl, rfl, rfl, rfl, rfl, rfl, rfl, rfl, trivial⟩⟩

set_option maxRecDepth 100000 in
set_option maxHeartbeats 1000000 in
theorem pnn (w0 : World) (gb : Nat) (vt vr : Value) (ts : List ByteArray) (rs : List (List ByteArray)) (h : QH w0 gb vt vr ts rs) (kx : Int) (vN vL : Value) (LL OO WW : List Int) (hLL : LL.length ≤ 1000) (hOO : OO.length ≤ 1000000) (hl0 : ∀ x ∈ LL, 0 ≤ x) (k : Int) : T3 Try.prog (fun a w => (0 ≤ k ∧ k < LL.length) ∧ ∃ (v11 : Value), (QN w0 ts vN vL v11 WW LL (OO ++ realL ts.length (LL.take ((k + 1) : Int).toNat)) w) ∧ Fr 146 [(1, vr), (2, .pointer (some ⟨gb, 0, none⟩)), (10, .func (.func 64) #[] #[.pointer (some ⟨gb, 0, none⟩)]), (11, v11), (14, vN), (48, vr), (49, .int .i64 rs.length), (50, .int .i64 kx), (114, vL), (115, .int .i64 LL.length), (116, .int .i64 k)] a) (sel [1, 1, 1, 1, 1, 1, 1, 0, 1, 4, 4, 1, 1, 0, 4, 1, 1, 1, 1, 1, 1, 0, 1, 4, 4, 1, 1, 1] poR) (fun a w => pnI w0 gb vt vr ts rs h kx vN vL LL OO WW hLL hOO hl0 (k + 1) a w) No 9 (fun a w => ∃ v4 : Value, Fr 146 [(4, v4), (5, .int .i64 (playE ts rs))] a ∧ w.ownsRow w0.heap.size 9 1 v4 (playL ts rs).length (cellsOf encSt (playL ts rs)) ∧ Below w0.heap.size w0 w) := by
  refine T3.leaf ?_
  rintro Q JS JX JT K hS hK hX hE hT hR a w ⟨hk, v11, hW, ⟨fr, rfl, q1, q2, q10, q11, q14, q48, q49, q50, q114, q115, q116, _⟩⟩
  obtain ⟨hk0, hk1⟩ := hk
  rw [fr_poR, show fr 1 = _ from q1, show fr 2 = _ from q2, show fr 10 = _ from q10, show fr 11 = _ from q11, show fr 14 = _ from q14, show fr 48 = _ from q48, show fr 49 = _ from q49, show fr 50 = _ from q50, show fr 114 = _ from q114, show fr 115 = _ from q115, show fr 116 = _ from q116]
  clear q1 q2 q10 q11 q14 q48 q49 q50 q114 q115 q116
  conv => arg 2; whnf
  go_wp2_with fail
  refine Met.intro (hS _ _ ?_)
  exact ⟨⟨by omega, by omega⟩, v11, hW, Fr.of _ rfl ⟨rfl, rfl, rfl, rfl, rfl, rfl, rfl, rfl, rfl, rfl, rfl, trivial⟩⟩

set_option maxRecDepth 100000 in
set_option maxHeartbeats 1000000 in
theorem pnloop (w0 : World) (gb : Nat) (vt vr : Value) (ts : List ByteArray) (rs : List (List ByteArray)) (h : QH w0 gb vt vr ts rs) (kx : Int) (vN vL : Value) (LL OO WW : List Int) (hLL : LL.length ≤ 1000) (hOO : OO.length ≤ 1000000) (hl0 : ∀ x ∈ LL, 0 ≤ x) : T3 Try.prog (fun a w => pnI w0 gb vt vr ts rs h kx vN vL LL OO WW hLL hOO hl0 0 a w) (sel [1, 1, 1, 1, 1, 1, 1, 0, 1, 4, 4, 1, 1, 0, 4, 1, 1, 1, 1, 1, 1, 0, 1] poR) (fun a w => ∃ (v11 : Value), (QN w0 ts vN vL v11 WW LL (OO ++ realL ts.length (LL)) w) ∧ Fr 146 [(1, vr), (2, .pointer (some ⟨gb, 0, none⟩)), (10, .func (.func 64) #[] #[.pointer (some ⟨gb, 0, none⟩)]), (11, v11), (14, vN), (48, vr), (49, .int .i64 rs.length), (50, .int .i64 kx)] a) No 9 (fun a w => ∃ v4 : Value, Fr 146 [(4, v4), (5, .int .i64 (playE ts rs))] a ∧ w.ownsRow w0.heap.size 9 1 v4 (playL ts rs).length (cellsOf encSt (playL ts rs)) ∧ Below w0.heap.size w0 w) := by
  refine T3.loop (c := (sel [1, 1, 1, 1, 1, 1, 1, 0, 1, 4, 4, 1, 1, 0, 4, 1, 1, 1, 1, 1, 1, 0, 1, 4, 4] poR)) (fun ng_ a w => ∃ k : Int, (ng_ : Int) = LL.length - k ∧ pnI w0 gb vt vr ts rs h kx vN vL LL OO WW hLL hOO hl0 k a w) (fun a w h => ⟨(LL.length : Int).toNat, 0, by have := h.1.2; omega, h⟩) (fun ng_ => T3.ex fun k => T3.pure fun hng_ => ?_)
  refine T3.seq (s := (sel [1, 1, 1, 1, 1, 1, 1, 0, 1, 4, 4, 1, 1, 0, 4, 1, 1, 1, 1, 1, 1, 0, 1, 4, 4, 0] poR)) (c := (sel [1, 1, 1, 1, 1, 1, 1, 0, 1, 4, 4, 1, 1, 0, 4, 1, 1, 1, 1, 1, 1, 0, 1, 4, 4, 1] poR)) ((pnt w0 gb vt vr ts rs h kx vN vL LL OO WW hLL hOO hl0 k).noX) ?_
  refine T3.seq (s := (sel [1, 1, 1, 1, 1, 1, 1, 0, 1, 4, 4, 1, 1, 0, 4, 1, 1, 1, 1, 1, 1, 0, 1, 4, 4, 1, 0] poR)) (c := (sel [1, 1, 1, 1, 1, 1, 1, 0, 1, 4, 4, 1, 1, 0, 4, 1, 1, 1, 1, 1, 1, 0, 1, 4, 4, 1, 1] poR)) (S := fun a w => (0 ≤ k ∧ k < LL.length) ∧ ∃ (v11 : Value), (QN w0 ts vN vL v11 WW LL (OO ++ realL ts.length (LL.take (k : Int).toNat)) w) ∧ Fr 146 [(1, vr), (2, .pointer (some ⟨gb, 0, none⟩)), (10, .func (.func 64) #[] #[.pointer (some ⟨gb, 0, none⟩)]), (11, v11), (14, vN), (48, vr), (49, .int .i64 rs.length), (50, .int .i64 kx), (114, vL), (115, .int .i64 LL.length), (116, .int .i64 k)] a) ?_ (T3.seq (s := (sel [1, 1, 1, 1, 1, 1, 1, 0, 1, 4, 4, 1, 1, 0, 4, 1, 1, 1, 1, 1, 1, 0, 1, 4, 4, 1, 1, 0] poR)) (c := (sel [1, 1, 1, 1, 1, 1, 1, 0, 1, 4, 4, 1, 1, 0, 4, 1, 1, 1, 1, 1, 1, 0, 1, 4, 4, 1, 1, 1] poR)) (S := fun a w => (0 ≤ k ∧ k < LL.length) ∧ ∃ (v11 : Value), (QN w0 ts vN vL v11 WW LL (OO ++ realL ts.length (LL.take ((k + 1) : Int).toNat)) w) ∧ Fr 146 [(1, vr), (2, .pointer (some ⟨gb, 0, none⟩)), (10, .func (.func 64) #[] #[.pointer (some ⟨gb, 0, none⟩)]), (11, v11), (14, vN), (48, vr), (49, .int .i64 rs.length), (50, .int .i64 kx), (114, vL), (115, .int .i64 LL.length), (116, .int .i64 k)] a) (T3.noX (T3.mono (R' := fun a w => (0 ≤ k ∧ k < LL.length) ∧ ∃ (v11 : Value), (QN w0 ts vN vL v11 WW LL (OO ++ realL ts.length (LL.take (k : Int).toNat)) w) ∧ Fr 146 [(1, vr), (2, .pointer (some ⟨gb, 0, none⟩)), (10, .func (.func 64) #[] #[.pointer (some ⟨gb, 0, none⟩)]), (11, v11), (14, vN), (48, vr), (49, .int .i64 rs.length), (50, .int .i64 kx), (114, vL), (115, .int .i64 LL.length), (116, .int .i64 k)] a) (S' := fun a w => (0 ≤ k ∧ k < LL.length) ∧ ∃ (v11 : Value), (QN w0 ts vN vL v11 WW LL (OO ++ realL ts.length (LL.take ((k + 1) : Int).toNat)) w) ∧ Fr 146 [(1, vr), (2, .pointer (some ⟨gb, 0, none⟩)), (10, .func (.func 64) #[] #[.pointer (some ⟨gb, 0, none⟩)]), (11, v11), (14, vN), (48, vr), (49, .int .i64 rs.length), (50, .int .i64 kx), (114, vL), (115, .int .i64 LL.length), (116, .int .i64 k)] a) (pnb w0 gb vt vr ts rs h kx vN vL LL OO WW hLL hOO hl0 k) (fun a w ⟨hk, v11, hI⟩ => ⟨v11, hk, hI⟩) (fun a w ⟨v11, hk, hI⟩ => ⟨hk, v11, hI⟩) (fun _ _ q => q) (fun _ _ q => q))) ?_)
  · refine T3.cond (o := .tmp 117) (x := .skip) (y := .exit 7) (fun a w => k < LL.length ∧ pnI w0 gb vt vr ts rs h kx vN vL LL OO WW hLL hOO hl0 k a w) (fun a w => ¬ k < LL.length ∧ pnI w0 gb vt vr ts rs h kx vN vL LL OO WW hLL hOO hl0 k a w) ?_ (T3.skip ?_) (T3.exit ?_)
    · rintro a w ⟨q, hF, hq, hI⟩
      have he := hF.eval 117 (by decide) (v := .bool q) (by simp)
      cases q
      · exact .inr ⟨he, (fun h => by have := hq.2 h; cases this), hI⟩
      · exact .inl ⟨he, hq.1 rfl, hI⟩
    · rintro a w ⟨hlt, hk, hI⟩
      exact ⟨⟨hk.1, hlt⟩, hI⟩
    · rintro a w ⟨hlt, hk, hI⟩
      obtain rfl : k = LL.length := by omega
      obtain ⟨v11, hW, hF⟩ := hI
      rw [show (LL.length : Int).toNat = LL.length by omega, List.take_length] at hW
      exact ⟨v11, hW, hF.sub (by simp)⟩
  · intro a w hx
    have hk := hx.1
    exact (((pnn w0 gb vt vr ts rs h kx vN vL LL OO WW hLL hOO hl0 k).noX).post (fun a w q => ⟨ng_ - 1, by omega, k + 1, by omega, q⟩)) a w hx
set_option maxRecDepth 100000 in
set_option maxHeartbeats 1000000 in
theorem pn40 (w0 : World) (gb : Nat) (vt vr : Value) (ts : List ByteArray) (rs : List (List ByteArray)) (h : QH w0 gb vt vr ts rs) (kx : Int) (vN vL : Value) (LL OO WW : List Int) (hLL : LL.length ≤ 1000) (hOO : OO.length ≤ 1000000) (hl0 : ∀ x ∈ LL, 0 ≤ x) (v11 : Value) : T3 Try.prog (fun a w => (QN w0 ts vN vL v11 WW LL (OO ++ realL ts.length (LL)) w) ∧ Fr 146 [(1, vr), (2, .pointer (some ⟨gb, 0, none⟩)), (10, .func (.func 64) #[] #[.pointer (some ⟨gb, 0, none⟩)]), (11, v11), (14, vN), (48, vr), (49, .int .i64 rs.length), (50, .int .i64 kx)] a) (sel [1, 1, 1, 1, 1, 1, 1, 0, 1, 4, 4, 1, 1, 0, 4, 1, 1, 1, 1, 1, 1, 1] poR) (fun a w => (QN w0 ts vN vL v11 WW LL (OO ++ realL ts.length (LL)) w) ∧ Fr 146 [(1, vr), (2, .pointer (some ⟨gb, 0, none⟩)), (7, vN), (10, .func (.func 64) #[] #[.pointer (some ⟨gb, 0, none⟩)]), (11, v11), (48, vr), (49, .int .i64 rs.length), (50, .int .i64 kx)] a) No 9 (fun a w => ∃ v4 : Value, Fr 146 [(4, v4), (5, .int .i64 (playE ts rs))] a ∧ w.ownsRow w0.heap.size 9 1 v4 (playL ts rs).length (cellsOf encSt (playL ts rs)) ∧ Below w0.heap.size w0 w) := by
  refine T3.leaf ?_
  rintro Q JS JX JT K hS hK hX hE hT hR a w ⟨hW, ⟨fr, rfl, q1, q2, q10, q11, q14, q48, q49, q50, _⟩⟩
  obtain ⟨pr, cr, hvr⟩ := h.r.shape
  subst hvr
  have HW := Lib.hid hW
  obtain ⟨pN, cN, hvN⟩ := (Row.of_owns hW.nw).shape
  obtain ⟨p11, c11, hv11⟩ := (Row.of_owns hW.nm).shape
  subst hvN
  subst hv11
  clear hW
  generalize OO ++ realL ts.length LL = O1 at *
  rw [fr_poR, show fr 1 = _ from q1, show fr 2 = _ from q2, show fr 10 = _ from q10, show fr 11 = _ from q11, show fr 14 = _ from q14, show fr 48 = _ from q48, show fr 49 = _ from q49, show fr 50 = _ from q50]
  clear q1 q2 q10 q11 q14 q48 q49 q50
  conv => arg 2; whnf
  go_wp2_with fail
  refine Met.intro (hS _ _ ?_)
  exact ⟨HW.out, Fr.of _ rfl ⟨rfl, rfl, rfl, rfl, rfl, rfl, rfl, rfl, trivial⟩⟩

end Go.Proofs.Ytkdimgghljklmaa
