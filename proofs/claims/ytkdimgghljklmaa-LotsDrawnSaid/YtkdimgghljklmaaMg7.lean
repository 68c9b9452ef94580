/-
  Contracts and lemmas towards the statement, of several parts; each part says ahead of it what it holds and under which conditions.
-/
import Derived.Test.YtkdimgghljklmaaMg6
/-
  Lots: who gets which place, the reference's DrawOf: its pieces. Conditions: right teams, weights and number of lots.
-/
set_option linter.unusedVariables false
namespace Go.Proofs.Ytkdimgghljklmaa
open Go.RowKit Go.Bw
theorem el_intD : Elem Try.prog 22 3 (.int .i64 0) 1 8 := ⟨by kernel_rfl, by kernel_rfl, by kernel_rfl, by decide, by decide⟩
theorem natsL_snoc (l : List Nat) (j : Nat) : natsL (l ++ [j]) = natsL l ++ [(j : Int)] := by simp [natsL]
theorem natsL_length (l : List Nat) : (natsL l).length = l.length := by simp [natsL]
/-- The call's own lists: who has a place, the names so far. -/
structure Dn (w0 : World) (ts : List ByteArray) (v13 v18 : Value) (H G : List Nat) (w : World) : Prop where
  bel : Below w0.heap.size w0 w
  hv : w.ownsRow w0.heap.size 3 1 v13 H.length ((natsL H).map (.int .i64))
  nm : w.ownsRow w0.heap.size 9 1 v18 G.length (cellsOf encSt (namesL ts G))
section
variable {w0 w w' : World} {ts : List ByteArray} {v13 v18 v' : Value} {H G : List Nat}
theorem Dn.below (h : Dn w0 ts v13 v18 H G w) (b : Below w.heap.size w w') : Dn w0 ts v13 v18 H G w' :=
  ⟨h.bel.trans (b.mono h.bel.size), owns_below h.hv b (Nat.le_refl _), owns_below h.nm b (Nat.le_refl _)⟩
theorem Dn.alloc (h : Dn w0 ts v13 v18 H G w) (o : Obj) : Dn w0 ts v13 v18 H G (w.alloc o) := h.below ((Below.refl _ _).alloc (Nat.le_refl _) o)
theorem Dn.appH (h : Dn w0 ts v13 v18 H G w) {j : Nat} (ho : w'.ownsRow w0.heap.size 3 1 v' (H.length + 1) ((natsL H).map (.int .i64) ++ [.int .i64 (j : Int)])) (g : w.grownBy w' v13.ownBlock) : Dn w0 ts v' v18 (H ++ [j]) G w' := by
  refine ⟨h.bel.grown g h.bel.size (fun k hk => (h.hv.lt k hk).1), ?_, own_app h.nm h.hv (by decide) g⟩
  rw [natsL_snoc, List.map_append, List.length_append]
  exact ho
theorem Dn.appN (h : Dn w0 ts v13 v18 H G w) {j : Nat} (ho : w'.ownsRow w0.heap.size 9 1 v' (G.length + 1) (cellsOf encSt (namesL ts G) ++ [.string (geta ts (j : Int))])) (g : w.grownBy w' v18.ownBlock) : Dn w0 ts v13 v' H (G ++ [j]) w' := by
  refine ⟨h.bel.grown g h.bel.size (fun k hk => (h.nm.lt k hk).1), own_app h.hv h.nm (by decide) g, ?_⟩
  rw [namesL_snoc, cellsOf_snoc, List.length_append]
  exact ho
end
/-- One step of the search for who is drawn: it stands at i with y left; f more may come. -/
def DrI (ws : List Int) (n : Nat) (x : Int) (f : Nat) (i y : Int) : Prop :=
  (0 ≤ i ∧ i + f = n ∧ 0 ≤ y ∧ y ≤ 14000) ∧ y < (ws.drop i.toNat).sum ∧ ((drawnF ws x : Nat) : Int) = i + (drawnF (ws.drop i.toNat) y : Nat)
theorem DrI.start {ws : List Int} {n : Nat} {x : Int} (h0 : 0 ≤ x) (h1 : x < ws.sum) (h2 : x ≤ 14000) : DrI ws n x n 0 x := ⟨⟨by omega, by omega, h0, h2⟩, by simpa using h1, by simp⟩
theorem DrI.lt {ws : List Int} {n f : Nat} {x i y : Int} (hl : ws.length = n) (h : DrI ws n x f i y) : i < n := by
  obtain ⟨⟨a, b, c, _⟩, d, _⟩ := h
  refine Decidable.byContradiction fun hge => ?_
  rw [List.drop_of_length_le (by omega)] at d
  simp at d
  omega
theorem DrI.stop {ws : List Int} {n f : Nat} {x i y : Int} (hl : ws.length = n) (h : DrI ws n x f i y) (hy : y < geti ws i) : ((drawnF ws x : Nat) : Int) = i := by
  have hlt := h.lt hl
  obtain ⟨⟨a, b, c, _⟩, d, e⟩ := h
  have hkl : i.toNat < ws.length := by omega
  have hge : geti ws i = ws[i.toNat] := by simp [geti, hkl]
  rw [drawnF_step ws i.toNat y hkl, ← hge, if_neg (by omega)] at e
  omega
theorem DrI.go {ws : List Int} {n f : Nat} {x i y : Int} (hl : ws.length = n) (hw : ∀ x ∈ ws, 1 ≤ x ∧ x ≤ 1000) (h : DrI ws n x f i y) (hy : geti ws i ≤ y) : ∃ f', f' < f ∧ DrI ws n x f' (i + 1) (y - geti ws i) := by
  have hlt := h.lt hl
  obtain ⟨⟨a, b, c, c2⟩, d, e⟩ := h
  have hkl : i.toNat < ws.length := by omega
  have hge : geti ws i = ws[i.toNat] := by simp [geti, hkl]
  have hg := geti_lo hw a (by omega)
  have hs := sum_drop ws i.toNat hkl
  rw [drawnF_step ws i.toNat y hkl, ← hge, if_pos hy] at e
  rw [← hge] at hs
  have hk : (i + 1).toNat = i.toNat + 1 := by omega
  refine ⟨f - 1, by omega, ⟨by omega, by omega, by omega, by omega⟩, ?_, ?_⟩
  · rw [hk]; omega
  · rw [hk, e]; omega
/-- The first k lots are not below 0. -/
def NNL (lots : List Int) (k : Int) : Prop := ∀ j : Int, 0 ≤ j → j < k → 0 ≤ geti lots j
theorem NNL.succ {lots : List Int} {k : Int} (h : NNL lots k) (hk : 0 ≤ geti lots k) : NNL lots (k + 1) := by
  intro j h0 h1
  by_cases e : j = k
  · subst e; exact hk
  · exact h j h0 (by omega)
/-- What is right ahead of the draw. -/
structure DR (ts : List ByteArray) (ws lots : List Int) : Prop where
  g : WGood ts ws
  le : lots.length ≤ ts.length
theorem DR.pos {ts : List ByteArray} {ws lots : List Int} (d : DR ts ws lots) : 0 < ws.sum ∧ ws.sum ≤ 14000 := by
  have := sum_ge ws d.g.lo
  have := d.g.len
  have := d.g.n1
  have := d.g.n14
  omega
theorem DR.have {ts : List ByteArray} {ws lots : List Int} (d : DR ts ws lots) (k : Int) (h0 : 0 ≤ k) (h1 : k ≤ lots.length) : Have ts.length (HT ts ws lots k) :=
  lotsH_have d.g.len rfl d.pos.1 _ _ (Have.nil _) (by simp; have := d.le; omega)
theorem DR.drawn {ts : List ByteArray} {ws lots : List Int} (d : DR ts ws lots) (x : Int) : drawnF ws (x % ws.sum) < ts.length := by
  have hp := d.pos.1
  rw [← d.g.len]
  exact drawnF_lt ws _ (Int.emod_lt_of_pos _ hp) (Int.emod_nonneg _ (by omega))
noncomputable def doR : Code := (Try.f19.body).getD .skip
set_option maxRecDepth 100000 in
theorem fr_doR (f : Nat → Value) : frame 98 f = ⟨#[f 0, f 1, f 2, f 3, f 4, f 5, f 6, f 7, f 8, f 9, f 10, f 11, f 12, f 13, f 14, f 15, f 16, f 17, f 18, f 19, f 20, f 21, f 22, f 23, f 24, f 25, f 26, f 27, f 28, f 29, f 30, f 31, f 32, f 33, f 34, f 35, f 36, f 37, f 38, f 39, f 40, f 41, f 42, f 43, f 44, f 45, f 46, f 47, f 48, f 49, f 50, f 51, f 52, f 53, f 54, f 55, f 56, f 57, f 58, f 59, f 60, f 61, f 62, f 63, f 64, f 65, f 66, f 67, f 68, f 69, f 70, f 71, f 72, f 73, f 74, f 75, f 76, f 77, f 78, f 79, f 80, f 81, f 82, f 83, f 84, f 85, f 86, f 87, f 88, f 89, f 90, f 91, f 92, f 93, f 94, f 95, f 96, f 97], []⟩ := by rfl
set_option maxRecDepth 100000 in
set_option maxHeartbeats 1000000 in
theorem do0 (w0 : World) (vt vw vl : Value) (ts : List ByteArray) (ws lots : List Int) (top : Int) (h : DH w0 vt vw vl ts ws lots) : T3 Try.prog (fun a w => (IsW w0 w) ∧ Fr 98 [(0, vt), (1, vw), (2, vl), (3, .int .i64 top)] a) (sel [0] doR) (fun a w => (IsW w0 w) ∧ Fr 98 [(0, vt), (1, vw), (2, vl), (3, .int .i64 top)] a) No 9 (fun a w => ∃ v8 : Value, Fr 98 [(8, v8), (9, .int .i64 (drawE ts ws lots top))] a ∧ w.ownsRow w0.heap.size 9 1 v8 (drawL ts ws lots top).length (cellsOf encSt (drawL ts ws lots top)) ∧ Below w0.heap.size w0 w) := by
  refine T3.leaf ?_
  rintro Q JS JX JT K hS hK hX hE hT hR a w ⟨hW, ⟨fr, rfl, q0, q1, q2, q3, _⟩⟩
  obtain ⟨p1, c1, hv1⟩ := h.h.t.shape
  subst hv1
  obtain ⟨p2, c2, hv2⟩ := h.h.w.shape
  subst hv2
  obtain ⟨p3, c3, hv3⟩ := h.l.shape
  subst hv3
  rw [fr_doR, show fr 0 = _ from q0, show fr 1 = _ from q1, show fr 2 = _ from q2, show fr 3 = _ from q3]
  clear q0 q1 q2 q3
  conv => arg 2; whnf
  go_wp2_with fail
  refine Met.intro (hS _ _ ?_)
  exact ⟨hW, Fr.of _ rfl ⟨rfl, rfl, rfl, rfl, trivial⟩⟩

set_option maxRecDepth 100000 in
set_option maxHeartbeats 1000000 in
theorem do1 (w0 : World) (vt vw vl : Value) (ts : List ByteArray) (ws lots : List Int) (top : Int) (h : DH w0 vt vw vl ts ws lots) : T3 Try.prog (fun a w => (IsW w0 w) ∧ Fr 98 [(0, vt), (1, vw), (2, vl), (3, .int .i64 top)] a) (sel [1, 0, 0] doR) (fun a w => ∃ q, Fr 98 ((24, .bool q) :: [(0, vt), (1, vw), (2, vl), (3, .int .i64 top)]) a ∧ ((q = ((lots.length : Int) != top)) ∧ IsW w0 w)) No 9 (fun a w => ∃ v8 : Value, Fr 98 [(8, v8), (9, .int .i64 (drawE ts ws lots top))] a ∧ w.ownsRow w0.heap.size 9 1 v8 (drawL ts ws lots top).length (cellsOf encSt (drawL ts ws lots top)) ∧ Below w0.heap.size w0 w) := by
  refine T3.leaf ?_
  rintro Q JS JX JT K hS hK hX hE hT hR a w ⟨hW, ⟨fr, rfl, q0, q1, q2, q3, _⟩⟩
  obtain ⟨p1, c1, hv1⟩ := h.h.t.shape
  subst hv1
  obtain ⟨p2, c2, hv2⟩ := h.h.w.shape
  subst hv2
  obtain ⟨p3, c3, hv3⟩ := h.l.shape
  subst hv3
  generalize hq : ((lots.length : Int) != top) = q at *
  rw [fr_doR, show fr 0 = _ from q0, show fr 1 = _ from q1, show fr 2 = _ from q2, show fr 3 = _ from q3]
  clear q0 q1 q2 q3
  conv => arg 2; whnf
  go_wp2_with fail
  refine Met.intro (hS _ _ ?_)
  exact ⟨_, Fr.of _ rfl ⟨rfl, rfl, rfl, rfl, rfl, trivial⟩, rfl, hW⟩

set_option maxRecDepth 100000 in
set_option maxHeartbeats 1000000 in
theorem do2 (w0 : World) (vt vw vl : Value) (ts : List ByteArray) (ws lots : List Int) (top : Int) (h : DH w0 vt vw vl ts ws lots) : T3 Try.prog (fun a w => (IsW w0 w) ∧ Fr 98 [(0, vt), (1, vw), (2, vl), (3, .int .i64 top)] a) (sel [1, 0, 1, 2, 0] doR) (fun a w => (IsW w0 w) ∧ Fr 98 [(8, .slice none 0 0), (9, .int .i64 3)] a) No 9 (fun a w => ∃ v8 : Value, Fr 98 [(8, v8), (9, .int .i64 (drawE ts ws lots top))] a ∧ w.ownsRow w0.heap.size 9 1 v8 (drawL ts ws lots top).length (cellsOf encSt (drawL ts ws lots top)) ∧ Below w0.heap.size w0 w) := by
  refine T3.leaf ?_
  rintro Q JS JX JT K hS hK hX hE hT hR a w ⟨hW, ⟨fr, rfl, q0, q1, q2, q3, _⟩⟩
  obtain ⟨p1, c1, hv1⟩ := h.h.t.shape
  subst hv1
  obtain ⟨p2, c2, hv2⟩ := h.h.w.shape
  subst hv2
  obtain ⟨p3, c3, hv3⟩ := h.l.shape
  subst hv3
  rw [fr_doR, show fr 0 = _ from q0, show fr 1 = _ from q1, show fr 2 = _ from q2, show fr 3 = _ from q3]
  clear q0 q1 q2 q3
  conv => arg 2; whnf
  go_wp2_with fail
  refine Met.intro (hS _ _ ?_)
  exact ⟨hW, Fr.of _ rfl ⟨rfl, rfl, trivial⟩⟩

set_option maxRecDepth 100000 in
set_option maxHeartbeats 1000000 in
theorem do3 (w0 : World) (vt vw vl : Value) (ts : List ByteArray) (ws lots : List Int) (top : Int) (h : DH w0 vt vw vl ts ws lots) (d : DR ts ws lots) : T3 Try.prog (fun a w => (IsW w0 w) ∧ Fr 98 [(0, vt), (1, vw), (2, vl), (3, .int .i64 top)] a) (sel [1, 1, 0] doR) (fun a w => (IsW w0 w) ∧ Fr 98 [(0, vt), (1, vw), (2, vl), (10, .int .i64 0)] a) No 9 (fun a w => ∃ v8 : Value, Fr 98 [(8, v8), (9, .int .i64 (drawE ts ws lots top))] a ∧ w.ownsRow w0.heap.size 9 1 v8 (drawL ts ws lots top).length (cellsOf encSt (drawL ts ws lots top)) ∧ Below w0.heap.size w0 w) := by
  refine T3.leaf ?_
  rintro Q JS JX JT K hS hK hX hE hT hR a w ⟨hW, ⟨fr, rfl, q0, q1, q2, q3, _⟩⟩
  obtain ⟨p1, c1, hv1⟩ := h.h.t.shape
  subst hv1
  obtain ⟨p2, c2, hv2⟩ := h.h.w.shape
  subst hv2
  obtain ⟨p3, c3, hv3⟩ := h.l.shape
  subst hv3
  rw [fr_doR, show fr 0 = _ from q0, show fr 1 = _ from q1, show fr 2 = _ from q2, show fr 3 = _ from q3]
  clear q0 q1 q2 q3
  conv => arg 2; whnf
  go_wp2_with fail
  refine Met.intro (hS _ _ ?_)
  exact ⟨hW, Fr.of _ rfl ⟨rfl, rfl, rfl, rfl, trivial⟩⟩

set_option maxRecDepth 100000 in
set_option maxHeartbeats 1000000 in
theorem do4 (w0 : World) (vt vw vl : Value) (ts : List ByteArray) (ws lots : List Int) (top : Int) (h : DH w0 vt vw vl ts ws lots) (d : DR ts ws lots) : T3 Try.prog (fun a w => (IsW w0 w) ∧ Fr 98 [(0, vt), (1, vw), (2, vl), (10, .int .i64 0)] a) (sel [1, 1, 1, 0, 0] doR) (fun a w => (0 ≤ (0 : Int) ∧ (0 : Int) ≤ ws.length) ∧ (IsW w0 w) ∧ Fr 98 [(0, vt), (1, vw), (2, vl), (10, .int .i64 (sumTo ws 0)), (25, vw), (26, .int .i64 ws.length), (27, .int .i64 0)] a) No 9 (fun a w => ∃ v8 : Value, Fr 98 [(8, v8), (9, .int .i64 (drawE ts ws lots top))] a ∧ w.ownsRow w0.heap.size 9 1 v8 (drawL ts ws lots top).length (cellsOf encSt (drawL ts ws lots top)) ∧ Below w0.heap.size w0 w) := by
  refine T3.leaf ?_
  rintro Q JS JX JT K hS hK hX hE hT hR a w ⟨hW, ⟨fr, rfl, q0, q1, q2, q10, _⟩⟩
  have HZ := Lib.hid (show sumTo ws 0 = 0 by simp [sumTo])
  obtain ⟨p1, c1, hv1⟩ := h.h.t.shape
  subst hv1
  obtain ⟨p2, c2, hv2⟩ := h.h.w.shape
  subst hv2
  obtain ⟨p3, c3, hv3⟩ := h.l.shape
  subst hv3
  rw [fr_doR, show fr 0 = _ from q0, show fr 1 = _ from q1, show fr 2 = _ from q2, show fr 10 = _ from q10]
  clear q0 q1 q2 q10
  conv => arg 2; whnf
  go_wp2_with fail
  refine Met.intro (hS _ _ ?_)
  rw [HZ.out]
  exact ⟨⟨by omega, by omega⟩, hW, Fr.of _ rfl ⟨rfl, rfl, rfl, rfl, rfl, rfl, rfl, trivial⟩⟩

set_option maxRecDepth 100000 in
set_option maxHeartbeats 1000000 in
theorem do6 (w0 : World) (vt vw vl : Value) (ts : List ByteArray) (ws lots : List Int) (top : Int) (h : DH w0 vt vw vl ts ws lots) (d : DR ts ws lots) (k : Int) : T3 Try.prog (fun a w => (0 ≤ k ∧ k < ws.length) ∧ (IsW w0 w) ∧ Fr 98 [(0, vt), (1, vw), (2, vl), (10, .int .i64 (sumTo ws k)), (25, vw), (26, .int .i64 ws.length), (27, .int .i64 k)] a) (sel [1, 1, 1, 0, 1, 4, 4, 1, 1, 0, 4, 0] doR) (fun a w => (0 ≤ k ∧ k < ws.length) ∧ (IsW w0 w) ∧ Fr 98 [(0, vt), (1, vw), (2, vl), (10, .int .i64 (sumTo ws k)), (12, .int .i64 (geti ws k)), (25, vw), (26, .int .i64 ws.length), (27, .int .i64 k)] a) No 9 (fun a w => ∃ v8 : Value, Fr 98 [(8, v8), (9, .int .i64 (drawE ts ws lots top))] a ∧ w.ownsRow w0.heap.size 9 1 v8 (drawL ts ws lots top).length (cellsOf encSt (drawL ts ws lots top)) ∧ Below w0.heap.size w0 w) := by
  refine T3.leaf ?_
  rintro Q JS JX JT K hS hK hX hE hT hR a w ⟨hpre, hW, ⟨fr, rfl, q0, q1, q2, q10, q25, q26, q27, _⟩⟩
  obtain rfl : w = w0 := hW
  obtain ⟨hk0, hk1⟩ := hpre
  obtain ⟨_, hcs⟩ := h.h.w.ints
  rcases hcs with ⟨rfl, h0⟩ | ⟨bz, off, cap, rfl, _, hbz, hnc, hcm, hcell⟩
  · omega
  have t0 := hcell k hk0 hk1
  clear hcell
  rw [fr_doR, show fr 0 = _ from q0, show fr 1 = _ from q1, show fr 2 = _ from q2, show fr 10 = _ from q10, show fr 25 = _ from q25, show fr 26 = _ from q26, show fr 27 = _ from q27]
  clear q0 q1 q2 q10 q25 q26 q27
  conv => arg 2; whnf
  go_wp2_with fail
  refine Met.intro (hS _ _ ?_)
  exact ⟨⟨hk0, hk1⟩, rfl, Fr.of _ rfl ⟨rfl, rfl, rfl, rfl, rfl, rfl, rfl, rfl, trivial⟩⟩

set_option maxRecDepth 100000 in
set_option maxHeartbeats 1000000 in
theorem do7 (w0 : World) (vt vw vl : Value) (ts : List ByteArray) (ws lots : List Int) (top : Int) (h : DH w0 vt vw vl ts ws lots) (d : DR ts ws lots) (k : Int) : T3 Try.prog (fun a w => (0 ≤ k ∧ k < ws.length) ∧ (IsW w0 w) ∧ Fr 98 [(0, vt), (1, vw), (2, vl), (10, .int .i64 (sumTo ws k)), (12, .int .i64 (geti ws k)), (25, vw), (26, .int .i64 ws.length), (27, .int .i64 k)] a) (sel [1, 1, 1, 0, 1, 4, 4, 1, 1, 0, 4, 1] doR) (fun a w => (0 ≤ k ∧ k < ws.length) ∧ (IsW w0 w) ∧ Fr 98 [(0, vt), (1, vw), (2, vl), (10, .int .i64 (sumTo ws (k + 1))), (25, vw), (26, .int .i64 ws.length), (27, .int .i64 k)] a) No 9 (fun a w => ∃ v8 : Value, Fr 98 [(8, v8), (9, .int .i64 (drawE ts ws lots top))] a ∧ w.ownsRow w0.heap.size 9 1 v8 (drawL ts ws lots top).length (cellsOf encSt (drawL ts ws lots top)) ∧ Below w0.heap.size w0 w) := by
  refine T3.leaf ?_
  rintro Q JS JX JT K hS hK hX hE hT hR a w ⟨hpre, hW, ⟨fr, rfl, q0, q1, q2, q10, q12, q25, q26, q27, _⟩⟩
  have hpp := Lib.hid hpre
  obtain ⟨hk0, hk1⟩ := hpre
  have hsb := sumTo_le d.g.lo k hk0 (by omega)
  have hg := geti_lo d.g.lo hk0 hk1
  have Hs := Lib.hid (sumTo_succ ws k hk0 hk1)
  have hwn := h.h.wn
  obtain ⟨p1, c1, hv1⟩ := h.h.t.shape
  subst hv1
  obtain ⟨p2, c2, hv2⟩ := h.h.w.shape
  subst hv2
  obtain ⟨p3, c3, hv3⟩ := h.l.shape
  subst hv3
  generalize geti ws k = x at *
  generalize sumTo ws k = s at *
  rw [fr_doR, show fr 0 = _ from q0, show fr 1 = _ from q1, show fr 2 = _ from q2, show fr 10 = _ from q10, show fr 12 = _ from q12, show fr 25 = _ from q25, show fr 26 = _ from q26, show fr 27 = _ from q27]
  clear q0 q1 q2 q10 q12 q25 q26 q27
  conv => arg 2; whnf
  go_wp2_with fail
  refine Met.intro (hS _ _ ?_)
  rw [Hs.out]
  exact ⟨hpp.out, hW, Fr.of _ rfl ⟨rfl, rfl, rfl, rfl, rfl, rfl, rfl, trivial⟩⟩

set_option maxRecDepth 100000 in
set_option maxHeartbeats 1000000 in
theorem dob0 (w0 : World) (vt vw vl : Value) (ts : List ByteArray) (ws lots : List Int) (top : Int) (h : DH w0 vt vw vl ts ws lots) (d : DR ts ws lots) (k : Int) : T3 Try.prog (fun a w => (0 ≤ k ∧ k < ws.length) ∧ (IsW w0 w) ∧ Fr 98 [(0, vt), (1, vw), (2, vl), (10, .int .i64 (sumTo ws k)), (25, vw), (26, .int .i64 ws.length), (27, .int .i64 k)] a) (sel [1, 1, 1, 0, 1, 4, 4, 1, 1, 0] doR) (fun a w => (0 ≤ k ∧ k < ws.length) ∧ (IsW w0 w) ∧ Fr 98 [(0, vt), (1, vw), (2, vl), (10, .int .i64 (sumTo ws (k + 1))), (25, vw), (26, .int .i64 ws.length), (27, .int .i64 k)] a) No 9 (fun a w => ∃ v8 : Value, Fr 98 [(8, v8), (9, .int .i64 (drawE ts ws lots top))] a ∧ w.ownsRow w0.heap.size 9 1 v8 (drawL ts ws lots top).length (cellsOf encSt (drawL ts ws lots top)) ∧ Below w0.heap.size w0 w) := T3.block (id' := 1) (c := (sel [1, 1, 1, 0, 1, 4, 4, 1, 1, 0, 4] doR)) (by decide) (T3.seq (s := (sel [1, 1, 1, 0, 1, 4, 4, 1, 1, 0, 4, 0] doR)) (c := (sel [1, 1, 1, 0, 1, 4, 4, 1, 1, 0, 4, 1] doR)) (do6 w0 vt vw vl ts ws lots top h d k) (do7 w0 vt vw vl ts ws lots top h d k))

def do0I (w0 : World) (vt vw vl : Value) (ts : List ByteArray) (ws lots : List Int) (top : Int) (h : DH w0 vt vw vl ts ws lots) (d : DR ts ws lots) (k : Int) (a : Act) (w : World) : Prop := (0 ≤ k ∧ k ≤ ws.length) ∧ (IsW w0 w) ∧ Fr 98 [(0, vt), (1, vw), (2, vl), (10, .int .i64 (sumTo ws k)), (25, vw), (26, .int .i64 ws.length), (27, .int .i64 k)] a
set_option maxRecDepth 100000 in
set_option maxHeartbeats 1000000 in
theorem do0t (w0 : World) (vt vw vl : Value) (ts : List ByteArray) (ws lots : List Int) (top : Int) (h : DH w0 vt vw vl ts ws lots) (d : DR ts ws lots) (k : Int) : T3 Try.prog (fun a w => do0I w0 vt vw vl ts ws lots top h d k a w) (sel [1, 1, 1, 0, 1, 4, 4, 0] doR) (fun a w => ∃ q, Fr 98 ((28, .bool q) :: [(27, .int .i64 k)]) a ∧ ((q = true ↔ k < ws.length) ∧ do0I w0 vt vw vl ts ws lots top h d k a w)) No 9 (fun a w => ∃ v8 : Value, Fr 98 [(8, v8), (9, .int .i64 (drawE ts ws lots top))] a ∧ w.ownsRow w0.heap.size 9 1 v8 (drawL ts ws lots top).length (cellsOf encSt (drawL ts ws lots top)) ∧ Below w0.heap.size w0 w) := by
  refine T3.leaf ?_
  rintro Q JS JX JT K hS hK hX hE hT hR a w ⟨hk, hW, ⟨fr, rfl, q0, q1, q2, q10, q25, q26, q27, _⟩⟩
  have hwn := h.h.wn
  rw [fr_doR, show fr 0 = _ from q0, show fr 1 = _ from q1, show fr 2 = _ from q2, show fr 10 = _ from q10, show fr 25 = _ from q25, show fr 26 = _ from q26, show fr 27 = _ from q27]
  clear q0 q1 q2 q10 q25 q26 q27
  conv => arg 2; whnf
  by_cases hlt : k < ws.length
  · go_wp2_with fail
    refine Met.intro (hS _ _ ?_)
    exact ⟨true, Fr.of _ rfl ⟨rfl, rfl, trivial⟩, ⟨fun _ => hlt, fun _ => rfl⟩, hk, hW, Fr.of _ rfl ⟨rfl, rfl, rfl, rfl, rfl, rfl, rfl, trivial⟩⟩
  · have hpb : decide (k < (ws.length : Int)) = false := by simp; omega
    go_wp2_with fail
    refine Met.intro (hS _ _ ?_)
    exact ⟨false, Fr.of _ rfl ⟨rfl, rfl, trivial⟩, ⟨(fun h => by cases h), fun h => absurd h (by omega)⟩, hk, hW, Fr.of _ rfl ⟨rfl, rfl, rfl, rfl, rfl, rfl, rfl, trivial⟩⟩

set_option maxRecDepth 100000 in
set_option maxHeartbeats 1000000 in
theorem do0n (w0 : World) (vt vw vl : Value) (ts : List ByteArray) (ws lots : List Int) (top : Int) (h : DH w0 vt vw vl ts ws lots) (d : DR ts ws lots) (k : Int) : T3 Try.prog (fun a w => (0 ≤ k ∧ k < ws.length) ∧ (IsW w0 w) ∧ Fr 98 [(0, vt), (1, vw), (2, vl), (10, .int .i64 (sumTo ws (k + 1))), (25, vw), (26, .int .i64 ws.length), (27, .int .i64 k)] a) (sel [1, 1, 1, 0, 1, 4, 4, 1, 1, 1] doR) (fun a w => do0I w0 vt vw vl ts ws lots top h d (k + 1) a w) No 9 (fun a w => ∃ v8 : Value, Fr 98 [(8, v8), (9, .int .i64 (drawE ts ws lots top))] a ∧ w.ownsRow w0.heap.size 9 1 v8 (drawL ts ws lots top).length (cellsOf encSt (drawL ts ws lots top)) ∧ Below w0.heap.size w0 w) := by
  refine T3.leaf ?_
  rintro Q JS JX JT K hS hK hX hE hT hR a w ⟨hk, hW, ⟨fr, rfl, q0, q1, q2, q10, q25, q26, q27, _⟩⟩
  obtain ⟨hk0, hk1⟩ := hk
  have hwn := h.h.wn
  rw [fr_doR, show fr 0 = _ from q0, show fr 1 = _ from q1, show fr 2 = _ from q2, show fr 10 = _ from q10, show fr 25 = _ from q25, show fr 26 = _ from q26, show fr 27 = _ from q27]
  clear q0 q1 q2 q10 q25 q26 q27
  conv => arg 2; whnf
  go_wp2_with fail
  refine Met.intro (hS _ _ ?_)
  exact ⟨⟨by omega, by omega⟩, hW, Fr.of _ rfl ⟨rfl, rfl, rfl, rfl, rfl, rfl, rfl, trivial⟩⟩

set_option maxRecDepth 100000 in
set_option maxHeartbeats 1000000 in
theorem do0loop (w0 : World) (vt vw vl : Value) (ts : List ByteArray) (ws lots : List Int) (top : Int) (h : DH w0 vt vw vl ts ws lots) (d : DR ts ws lots) : T3 Try.prog (fun a w => do0I w0 vt vw vl ts ws lots top h d 0 a w) (sel [1, 1, 1, 0, 1] doR) (fun a w => (IsW w0 w) ∧ Fr 98 [(0, vt), (1, vw), (2, vl), (10, .int .i64 ws.sum)] a) No 9 (fun a w => ∃ v8 : Value, Fr 98 [(8, v8), (9, .int .i64 (drawE ts ws lots top))] a ∧ w.ownsRow w0.heap.size 9 1 v8 (drawL ts ws lots top).length (cellsOf encSt (drawL ts ws lots top)) ∧ Below w0.heap.size w0 w) := by
  refine T3.loop (c := (sel [1, 1, 1, 0, 1, 4, 4] doR)) (fun ng_ a w => ∃ k : Int, (ng_ : Int) = ws.length - k ∧ do0I w0 vt vw vl ts ws lots top h d k a w) (fun a w h => ⟨(ws.length : Int).toNat, 0, by have := h.1.2; omega, h⟩) (fun ng_ => T3.ex fun k => T3.pure fun hng_ => ?_)
  refine T3.seq (s := (sel [1, 1, 1, 0, 1, 4, 4, 0] doR)) (c := (sel [1, 1, 1, 0, 1, 4, 4, 1] doR)) ((do0t w0 vt vw vl ts ws lots top h d k).noX) ?_
  refine T3.seq (s := (sel [1, 1, 1, 0, 1, 4, 4, 1, 0] doR)) (c := (sel [1, 1, 1, 0, 1, 4, 4, 1, 1] doR)) (S := fun a w => (0 ≤ k ∧ k < ws.length) ∧ (IsW w0 w) ∧ Fr 98 [(0, vt), (1, vw), (2, vl), (10, .int .i64 (sumTo ws k)), (25, vw), (26, .int .i64 ws.length), (27, .int .i64 k)] a) ?_ (T3.seq (s := (sel [1, 1, 1, 0, 1, 4, 4, 1, 1, 0] doR)) (c := (sel [1, 1, 1, 0, 1, 4, 4, 1, 1, 1] doR)) (S := fun a w => (0 ≤ k ∧ k < ws.length) ∧ (IsW w0 w) ∧ Fr 98 [(0, vt), (1, vw), (2, vl), (10, .int .i64 (sumTo ws (k + 1))), (25, vw), (26, .int .i64 ws.length), (27, .int .i64 k)] a) (T3.noX (dob0 w0 vt vw vl ts ws lots top h d k)) ?_)
  · refine T3.cond (o := .tmp 28) (x := .skip) (y := .exit 0) (fun a w => k < ws.length ∧ do0I w0 vt vw vl ts ws lots top h d k a w) (fun a w => ¬ k < ws.length ∧ do0I w0 vt vw vl ts ws lots top h d k a w) ?_ (T3.skip ?_) (T3.exit ?_)
    · rintro a w ⟨q, hF, hq, hI⟩
      have he := hF.eval 28 (by decide) (v := .bool q) (by simp)
      cases q
      · exact .inr ⟨he, (fun h => by have := hq.2 h; cases this), hI⟩
      · exact .inl ⟨he, hq.1 rfl, hI⟩
    · rintro a w ⟨hlt, hk, hI⟩
      exact ⟨⟨hk.1, hlt⟩, hI⟩
    · rintro a w ⟨hlt, hk, hI⟩
      obtain rfl : k = ws.length := by omega
      obtain ⟨hW, hF⟩ := hI
      rw [sumTo_all] at hF
      exact ⟨hW, hF.sub (by simp)⟩
  · intro a w hx
    have hk := hx.1
    exact (((do0n w0 vt vw vl ts ws lots top h d k).noX).post (fun a w q => ⟨ng_ - 1, by omega, k + 1, by omega, q⟩)) a w hx
set_option maxRecDepth 100000 in
set_option maxHeartbeats 1000000 in
theorem do9 (w0 : World) (vt vw vl : Value) (ts : List ByteArray) (ws lots : List Int) (top : Int) (h : DH w0 vt vw vl ts ws lots) (d : DR ts ws lots) : T3 Try.prog (fun a w => (IsW w0 w) ∧ Fr 98 [(0, vt), (1, vw), (2, vl), (10, .int .i64 ws.sum)] a) (sel [1, 1, 1, 1, 0] doR) (fun a w => (Dn w0 ts (.slice none 0 0) (.slice none 0 0) ([]) ([]) w) ∧ Fr 98 [(0, vt), (1, vw), (2, vl), (10, .int .i64 ws.sum), (13, .slice none 0 0)] a) No 9 (fun a w => ∃ v8 : Value, Fr 98 [(8, v8), (9, .int .i64 (drawE ts ws lots top))] a ∧ w.ownsRow w0.heap.size 9 1 v8 (drawL ts ws lots top).length (cellsOf encSt (drawL ts ws lots top)) ∧ Below w0.heap.size w0 w) := by
  refine T3.leaf ?_
  rintro Q JS JX JT K hS hK hX hE hT hR a w ⟨hW, ⟨fr, rfl, q0, q1, q2, q10, _⟩⟩
  obtain ⟨p1, c1, hv1⟩ := h.h.t.shape
  subst hv1
  obtain ⟨p2, c2, hv2⟩ := h.h.w.shape
  subst hv2
  obtain ⟨p3, c3, hv3⟩ := h.l.shape
  subst hv3
  obtain rfl : w = w0 := hW
  rw [fr_doR, show fr 0 = _ from q0, show fr 1 = _ from q1, show fr 2 = _ from q2, show fr 10 = _ from q10]
  clear q0 q1 q2 q10
  conv => arg 2; whnf
  go_wp2_with fail
  refine Met.intro (hS _ _ ?_)
  exact ⟨⟨Below.refl _ _, World.ownsRow_nil _ _ _ _, World.ownsRow_nil _ _ _ _⟩, Fr.of _ rfl ⟨rfl, rfl, rfl, rfl, rfl, trivial⟩⟩

set_option maxRecDepth 100000 in
set_option maxHeartbeats 1000000 in
theorem do10 (w0 : World) (vt vw vl : Value) (ts : List ByteArray) (ws lots : List Int) (top : Int) (h : DH w0 vt vw vl ts ws lots) (d : DR ts ws lots) : T3 Try.prog (fun a w => (Dn w0 ts (.slice none 0 0) (.slice none 0 0) ([]) ([]) w) ∧ Fr 98 [(0, vt), (1, vw), (2, vl), (10, .int .i64 ws.sum), (13, .slice none 0 0)] a) (sel [1, 1, 1, 1, 1, 0, 0] doR) (fun a w => (0 ≤ (0 : Int) ∧ (0 : Int) ≤ lots.length) ∧ ∃ (v13 : Value), (NNL lots 0) ∧ (Dn w0 ts v13 (.slice none 0 0) (HT ts ws lots 0) ([]) w) ∧ Fr 98 [(0, vt), (1, vw), (10, .int .i64 ws.sum), (13, v13), (35, vl), (36, .int .i64 lots.length), (37, .int .i64 0)] a) No 9 (fun a w => ∃ v8 : Value, Fr 98 [(8, v8), (9, .int .i64 (drawE ts ws lots top))] a ∧ w.ownsRow w0.heap.size 9 1 v8 (drawL ts ws lots top).length (cellsOf encSt (drawL ts ws lots top)) ∧ Below w0.heap.size w0 w) := by
  refine T3.leaf ?_
  rintro Q JS JX JT K hS hK hX hE hT hR a w ⟨hW, ⟨fr, rfl, q0, q1, q2, q10, q13, _⟩⟩
  obtain ⟨p1, c1, hv1⟩ := h.h.t.shape
  subst hv1
  obtain ⟨p2, c2, hv2⟩ := h.h.w.shape
  subst hv2
  obtain ⟨p3, c3, hv3⟩ := h.l.shape
  subst hv3
  rw [fr_doR, show fr 0 = _ from q0, show fr 1 = _ from q1, show fr 2 = _ from q2, show fr 10 = _ from q10, show fr 13 = _ from q13]
  clear q0 q1 q2 q10 q13
  conv => arg 2; whnf
  go_wp2_with fail
  refine Met.intro (hS _ _ ?_)
  exact ⟨⟨by omega, by omega⟩, _, (fun j h0 h1 => by omega), hW, Fr.of _ rfl ⟨rfl, rfl, rfl, rfl, rfl, rfl, rfl, trivial⟩⟩

set_option maxRecDepth 100000 in
set_option maxHeartbeats 1000000 in
theorem do12 (w0 : World) (vt vw vl : Value) (ts : List ByteArray) (ws lots : List Int) (top : Int) (h : DH w0 vt vw vl ts ws lots) (d : DR ts ws lots) (k : Int) : T3 Try.prog (fun a w => ∃ (v13 : Value), ((0 ≤ k ∧ k < lots.length) ∧ NNL lots k) ∧ (Dn w0 ts v13 (.slice none 0 0) (HT ts ws lots k) ([]) w) ∧ Fr 98 [(0, vt), (1, vw), (10, .int .i64 ws.sum), (13, v13), (35, vl), (36, .int .i64 lots.length), (37, .int .i64 k)] a) (sel [1, 1, 1, 1, 1, 0, 1, 4, 4, 1, 1, 0, 4, 0] doR) (fun a w => ∃ (v13 : Value), ((0 ≤ k ∧ k < lots.length) ∧ NNL lots k) ∧ (Dn w0 ts v13 (.slice none 0 0) (HT ts ws lots k) ([]) w) ∧ Fr 98 [(0, vt), (1, vw), (10, .int .i64 ws.sum), (13, v13), (15, .int .i64 (geti lots k)), (35, vl), (36, .int .i64 lots.length), (37, .int .i64 k)] a) No 9 (fun a w => ∃ v8 : Value, Fr 98 [(8, v8), (9, .int .i64 (drawE ts ws lots top))] a ∧ w.ownsRow w0.heap.size 9 1 v8 (drawL ts ws lots top).length (cellsOf encSt (drawL ts ws lots top)) ∧ Below w0.heap.size w0 w) := by
  refine T3.leaf ?_
  rintro Q JS JX JT K hS hK hX hE hT hR a w ⟨v13, hpre, hW, ⟨fr, rfl, q0, q1, q10, q13, q35, q36, q37, _⟩⟩
  have hpp := Lib.hid hpre
  obtain ⟨⟨hk0, hk1⟩, _⟩ := hpre
  obtain ⟨_, hcs⟩ := (h.l.below hW.bel).ints
  rcases hcs with ⟨rfl, h0⟩ | ⟨bz, off, cap, rfl, _, hbz, hnc, hcm, hcell⟩
  · omega
  have t0 := hcell k hk0 hk1
  clear hcell
  rw [fr_doR, show fr 0 = _ from q0, show fr 1 = _ from q1, show fr 10 = _ from q10, show fr 13 = _ from q13, show fr 35 = _ from q35, show fr 36 = _ from q36, show fr 37 = _ from q37]
  clear q0 q1 q10 q13 q35 q36 q37
  conv => arg 2; whnf
  go_wp2_with fail
  refine Met.intro (hS _ _ ?_)
  exact ⟨v13, hpp.out, hW, Fr.of _ rfl ⟨rfl, rfl, rfl, rfl, rfl, rfl, rfl, rfl, trivial⟩⟩

set_option maxRecDepth 100000 in
set_option maxHeartbeats 1000000 in
theorem do13 (w0 : World) (vt vw vl : Value) (ts : List ByteArray) (ws lots : List Int) (top : Int) (h : DH w0 vt vw vl ts ws lots) (d : DR ts ws lots) (k : Int) (v13 : Value) : T3 Try.prog (fun a w => ((0 ≤ k ∧ k < lots.length) ∧ NNL lots k) ∧ (Dn w0 ts v13 (.slice none 0 0) (HT ts ws lots k) ([]) w) ∧ Fr 98 [(0, vt), (1, vw), (10, .int .i64 ws.sum), (13, v13), (15, .int .i64 (geti lots k)), (35, vl), (36, .int .i64 lots.length), (37, .int .i64 k)] a) (sel [1, 1, 1, 1, 1, 0, 1, 4, 4, 1, 1, 0, 4, 1, 0, 0] doR) (fun a w => ∃ q, Fr 98 ((42, .bool q) :: [(0, vt), (1, vw), (10, .int .i64 ws.sum), (13, v13), (15, .int .i64 (geti lots k)), (35, vl), (36, .int .i64 lots.length), (37, .int .i64 k)]) a ∧ ((((0 ≤ k ∧ k < lots.length) ∧ NNL lots k) ∧ q = decide (geti lots k < 0)) ∧ Dn w0 ts v13 (.slice none 0 0) (HT ts ws lots k) ([]) w)) No 9 (fun a w => ∃ v8 : Value, Fr 98 [(8, v8), (9, .int .i64 (drawE ts ws lots top))] a ∧ w.ownsRow w0.heap.size 9 1 v8 (drawL ts ws lots top).length (cellsOf encSt (drawL ts ws lots top)) ∧ Below w0.heap.size w0 w) := by
  refine T3.leaf ?_
  rintro Q JS JX JT K hS hK hX hE hT hR a w ⟨hpre, hW, ⟨fr, rfl, q0, q1, q10, q13, q15, q35, q36, q37, _⟩⟩
  have hpp := Lib.hid hpre
  clear hpre
  obtain ⟨p1, c1, hv1⟩ := h.h.t.shape
  subst hv1
  obtain ⟨p2, c2, hv2⟩ := h.h.w.shape
  subst hv2
  obtain ⟨p3, c3, hv3⟩ := h.l.shape
  subst hv3
  generalize hq : decide (geti lots k < 0) = q at *
  rw [fr_doR, show fr 0 = _ from q0, show fr 1 = _ from q1, show fr 10 = _ from q10, show fr 13 = _ from q13, show fr 15 = _ from q15, show fr 35 = _ from q35, show fr 36 = _ from q36, show fr 37 = _ from q37]
  clear q0 q1 q10 q13 q15 q35 q36 q37
  conv => arg 2; whnf
  go_wp2_with fail
  have hpre := hpp.out
  refine Met.intro (hS _ _ ?_)
  exact ⟨_, Fr.of _ rfl ⟨rfl, rfl, rfl, rfl, rfl, rfl, rfl, rfl, rfl, trivial⟩, ⟨hpre, rfl⟩, hW⟩

set_option maxRecDepth 100000 in
set_option maxHeartbeats 1000000 in
theorem do14 (w0 : World) (vt vw vl : Value) (ts : List ByteArray) (ws lots : List Int) (top : Int) (h : DH w0 vt vw vl ts ws lots) (d : DR ts ws lots) (k : Int) (v13 : Value) : T3 Try.prog (fun a w => (Dn w0 ts v13 (.slice none 0 0) (HT ts ws lots k) ([]) w) ∧ Fr 98 [(0, vt), (1, vw), (10, .int .i64 ws.sum), (13, v13), (15, .int .i64 (geti lots k)), (35, vl), (36, .int .i64 lots.length), (37, .int .i64 k)] a) (sel [1, 1, 1, 1, 1, 0, 1, 4, 4, 1, 1, 0, 4, 1, 0, 1, 2, 0] doR) (fun a w => (Dn w0 ts v13 (.slice none 0 0) (HT ts ws lots k) ([]) w) ∧ Fr 98 [(8, .slice none 0 0), (9, .int .i64 1)] a) No 9 (fun a w => ∃ v8 : Value, Fr 98 [(8, v8), (9, .int .i64 (drawE ts ws lots top))] a ∧ w.ownsRow w0.heap.size 9 1 v8 (drawL ts ws lots top).length (cellsOf encSt (drawL ts ws lots top)) ∧ Below w0.heap.size w0 w) := by
  refine T3.leaf ?_
  rintro Q JS JX JT K hS hK hX hE hT hR a w ⟨hW, ⟨fr, rfl, q0, q1, q10, q13, q15, q35, q36, q37, _⟩⟩
  obtain ⟨p1, c1, hv1⟩ := h.h.t.shape
  subst hv1
  obtain ⟨p2, c2, hv2⟩ := h.h.w.shape
  subst hv2
  obtain ⟨p3, c3, hv3⟩ := h.l.shape
  subst hv3
  rw [fr_doR, show fr 0 = _ from q0, show fr 1 = _ from q1, show fr 10 = _ from q10, show fr 13 = _ from q13, show fr 15 = _ from q15, show fr 35 = _ from q35, show fr 36 = _ from q36, show fr 37 = _ from q37]
  clear q0 q1 q10 q13 q15 q35 q36 q37
  conv => arg 2; whnf
  go_wp2_with fail
  refine Met.intro (hS _ _ ?_)
  exact ⟨hW, Fr.of _ rfl ⟨rfl, rfl, trivial⟩⟩

set_option maxRecDepth 100000 in
set_option maxHeartbeats 1000000 in
theorem do15 (w0 : World) (vt vw vl : Value) (ts : List ByteArray) (ws lots : List Int) (top : Int) (h : DH w0 vt vw vl ts ws lots) (d : DR ts ws lots) (k : Int) (v13 : Value) (hn : 0 ≤ geti lots k) (hkk : 0 ≤ k ∧ k < lots.length) : T3 Try.prog (fun a w => (Dn w0 ts v13 (.slice none 0 0) (HT ts ws lots k) ([]) w) ∧ Fr 98 [(0, vt), (1, vw), (10, .int .i64 ws.sum), (13, v13), (15, .int .i64 (geti lots k)), (35, vl), (36, .int .i64 lots.length), (37, .int .i64 k)] a) (sel [1, 1, 1, 1, 1, 0, 1, 4, 4, 1, 1, 0, 4, 1, 1, 0] doR) (fun a w => (Dn w0 ts v13 (.slice none 0 0) (HT ts ws lots k) ([]) w) ∧ Fr 98 [(0, vt), (1, vw), (10, .int .i64 ws.sum), (13, v13), (15, .int .i64 (geti lots k % ws.sum)), (35, vl), (36, .int .i64 lots.length), (37, .int .i64 k)] a) No 9 (fun a w => ∃ v8 : Value, Fr 98 [(8, v8), (9, .int .i64 (drawE ts ws lots top))] a ∧ w.ownsRow w0.heap.size 9 1 v8 (drawL ts ws lots top).length (cellsOf encSt (drawL ts ws lots top)) ∧ Below w0.heap.size w0 w) := by
  refine T3.leaf ?_
  rintro Q JS JX JT K hS hK hX hE hT hR a w ⟨hW, ⟨fr, rfl, q0, q1, q10, q13, q15, q35, q36, q37, _⟩⟩
  obtain ⟨hp0, hp1⟩ := d.pos
  have hn0 : ¬ (ws.sum = 0) := by omega
  have hm0 := Int.emod_nonneg (geti lots k) hn0
  have hm1 := Int.emod_lt_of_pos (geti lots k) hp0
  have hr1 : Int.tmod (geti lots k) ws.sum = geti lots k % ws.sum := Int.tmod_eq_emod_of_nonneg hn
  have hr2 : IntKind.i64.wrap (geti lots k % ws.sum) = geti lots k % ws.sum := IntWalk.i64_in _ (by omega)
  obtain ⟨p1, c1, hv1⟩ := h.h.t.shape
  subst hv1
  obtain ⟨p2, c2, hv2⟩ := h.h.w.shape
  subst hv2
  obtain ⟨p3, c3, hv3⟩ := h.l.shape
  subst hv3
  rw [fr_doR, show fr 0 = _ from q0, show fr 1 = _ from q1, show fr 10 = _ from q10, show fr 13 = _ from q13, show fr 15 = _ from q15, show fr 35 = _ from q35, show fr 36 = _ from q36, show fr 37 = _ from q37]
  clear q0 q1 q10 q13 q15 q35 q36 q37
  conv => arg 2; whnf
  go_wp2_with fail
  refine Met.intro (hS _ _ ?_)
  exact ⟨hW, Fr.of _ rfl ⟨rfl, rfl, rfl, rfl, rfl, rfl, rfl, rfl, trivial⟩⟩

set_option maxRecDepth 100000 in
set_option maxHeartbeats 1000000 in
theorem do16 (w0 : World) (vt vw vl : Value) (ts : List ByteArray) (ws lots : List Int) (top : Int) (h : DH w0 vt vw vl ts ws lots) (d : DR ts ws lots) (k : Int) (v13 : Value) (hn : 0 ≤ geti lots k) (hkk : 0 ≤ k ∧ k < lots.length) : T3 Try.prog (fun a w => (Dn w0 ts v13 (.slice none 0 0) (HT ts ws lots k) ([]) w) ∧ Fr 98 [(0, vt), (1, vw), (10, .int .i64 ws.sum), (13, v13), (15, .int .i64 (geti lots k % ws.sum)), (35, vl), (36, .int .i64 lots.length), (37, .int .i64 k)] a) (sel [1, 1, 1, 1, 1, 0, 1, 4, 4, 1, 1, 0, 4, 1, 1, 1, 0] doR) (fun a w => (Dn w0 ts v13 (.slice none 0 0) (HT ts ws lots k) ([]) w) ∧ Fr 98 [(0, vt), (1, vw), (10, .int .i64 ws.sum), (13, v13), (15, .int .i64 (geti lots k % ws.sum)), (16, .int .i64 0), (35, vl), (36, .int .i64 lots.length), (37, .int .i64 k)] a) No 9 (fun a w => ∃ v8 : Value, Fr 98 [(8, v8), (9, .int .i64 (drawE ts ws lots top))] a ∧ w.ownsRow w0.heap.size 9 1 v8 (drawL ts ws lots top).length (cellsOf encSt (drawL ts ws lots top)) ∧ Below w0.heap.size w0 w) := by
  refine T3.leaf ?_
  rintro Q JS JX JT K hS hK hX hE hT hR a w ⟨hW, ⟨fr, rfl, q0, q1, q10, q13, q15, q35, q36, q37, _⟩⟩
  obtain ⟨p1, c1, hv1⟩ := h.h.t.shape
  subst hv1
  obtain ⟨p2, c2, hv2⟩ := h.h.w.shape
  subst hv2
  obtain ⟨p3, c3, hv3⟩ := h.l.shape
  subst hv3
  rw [fr_doR, show fr 0 = _ from q0, show fr 1 = _ from q1, show fr 10 = _ from q10, show fr 13 = _ from q13, show fr 15 = _ from q15, show fr 35 = _ from q35, show fr 36 = _ from q36, show fr 37 = _ from q37]
  clear q0 q1 q10 q13 q15 q35 q36 q37
  conv => arg 2; whnf
  go_wp2_with fail
  refine Met.intro (hS _ _ ?_)
  exact ⟨hW, Fr.of _ rfl ⟨rfl, rfl, rfl, rfl, rfl, rfl, rfl, rfl, rfl, trivial⟩⟩

set_option maxRecDepth 100000 in
set_option maxHeartbeats 1000000 in
theorem do17 (w0 : World) (vt vw vl : Value) (ts : List ByteArray) (ws lots : List Int) (top : Int) (h : DH w0 vt vw vl ts ws lots) (d : DR ts ws lots) (k : Int) (v13 : Value) (hn : 0 ≤ geti lots k) (hkk : 0 ≤ k ∧ k < lots.length) (f : Nat) (i y : Int) (hr : DrI ws ts.length (geti lots k % ws.sum) f i y) : T3 Try.prog (fun a w => (Dn w0 ts v13 (.slice none 0 0) (HT ts ws lots k) ([]) w) ∧ Fr 98 [(0, vt), (1, vw), (10, .int .i64 ws.sum), (13, v13), (15, .int .i64 y), (16, .int .i64 i), (35, vl), (36, .int .i64 lots.length), (37, .int .i64 k)] a) (sel [1, 1, 1, 1, 1, 0, 1, 4, 4, 1, 1, 0, 4, 1, 1, 1, 1, 0, 4, 4, 0, 0] doR) (fun a w => ∃ q, Fr 98 ((51, .bool q) :: [(0, vt), (1, vw), (10, .int .i64 ws.sum), (13, v13), (15, .int .i64 y), (16, .int .i64 i), (35, vl), (36, .int .i64 lots.length), (37, .int .i64 k)]) a ∧ ((q = decide (geti ws i ≤ y)) ∧ Dn w0 ts v13 (.slice none 0 0) (HT ts ws lots k) ([]) w)) No 9 (fun a w => ∃ v8 : Value, Fr 98 [(8, v8), (9, .int .i64 (drawE ts ws lots top))] a ∧ w.ownsRow w0.heap.size 9 1 v8 (drawL ts ws lots top).length (cellsOf encSt (drawL ts ws lots top)) ∧ Below w0.heap.size w0 w) := by
  refine T3.leaf ?_
  rintro Q JS JX JT K hS hK hX hE hT hR a w ⟨hW, ⟨fr, rfl, q0, q1, q10, q13, q15, q16, q35, q36, q37, _⟩⟩
  have hlt := hr.lt d.g.len
  obtain ⟨⟨hi0, _, hy0, hy1⟩, _⟩ := hr
  obtain ⟨_, hcs⟩ := (h.h.w.below hW.bel).ints
  have hwl := d.g.len
  rcases hcs with ⟨rfl, h0⟩ | ⟨bz, off, cap, rfl, _, hbz, hnc, hcm, hcell⟩
  · omega
  have t0 := hcell i hi0 (by omega)
  have hlw : i < ws.length := by omega
  clear hcell hwl
  obtain ⟨p1, c1, hv1⟩ := h.h.t.shape
  subst hv1
  generalize geti ws i = g at *
  generalize hq : decide (g ≤ y) = q at *
  rw [fr_doR, show fr 0 = _ from q0, show fr 1 = _ from q1, show fr 10 = _ from q10, show fr 13 = _ from q13, show fr 15 = _ from q15, show fr 16 = _ from q16, show fr 35 = _ from q35, show fr 36 = _ from q36, show fr 37 = _ from q37]
  clear q0 q1 q10 q13 q15 q16 q35 q36 q37
  conv => arg 2; whnf
  go_wp2_with fail
  refine Met.intro (hS _ _ ?_)
  exact ⟨_, Fr.of _ rfl ⟨rfl, rfl, rfl, rfl, rfl, rfl, rfl, rfl, rfl, rfl, trivial⟩, rfl, hW⟩

set_option maxRecDepth 100000 in
set_option maxHeartbeats 1000000 in
theorem do18 (w0 : World) (vt vw vl : Value) (ts : List ByteArray) (ws lots : List Int) (top : Int) (h : DH w0 vt vw vl ts ws lots) (d : DR ts ws lots) (k : Int) (v13 : Value) (hn : 0 ≤ geti lots k) (hkk : 0 ≤ k ∧ k < lots.length) (f : Nat) (i y : Int) (hr : DrI ws ts.length (geti lots k % ws.sum) f i y) (hle : geti ws i ≤ y) : T3 Try.prog (fun a w => (Dn w0 ts v13 (.slice none 0 0) (HT ts ws lots k) ([]) w) ∧ Fr 98 [(0, vt), (1, vw), (10, .int .i64 ws.sum), (13, v13), (15, .int .i64 y), (16, .int .i64 i), (35, vl), (36, .int .i64 lots.length), (37, .int .i64 k)] a) (sel [1, 1, 1, 1, 1, 0, 1, 4, 4, 1, 1, 0, 4, 1, 1, 1, 1, 0, 4, 4, 1, 4, 0] doR) (fun a w => (Dn w0 ts v13 (.slice none 0 0) (HT ts ws lots k) ([]) w) ∧ Fr 98 [(0, vt), (1, vw), (10, .int .i64 ws.sum), (13, v13), (15, .int .i64 (y - geti ws i)), (16, .int .i64 i), (35, vl), (36, .int .i64 lots.length), (37, .int .i64 k)] a) No 9 (fun a w => ∃ v8 : Value, Fr 98 [(8, v8), (9, .int .i64 (drawE ts ws lots top))] a ∧ w.ownsRow w0.heap.size 9 1 v8 (drawL ts ws lots top).length (cellsOf encSt (drawL ts ws lots top)) ∧ Below w0.heap.size w0 w) := by
  refine T3.leaf ?_
  rintro Q JS JX JT K hS hK hX hE hT hR a w ⟨hW, ⟨fr, rfl, q0, q1, q10, q13, q15, q16, q35, q36, q37, _⟩⟩
  have hlt := hr.lt d.g.len
  obtain ⟨⟨hi0, _, hy0, hy1⟩, _⟩ := hr
  have hg := geti_lo d.g.lo hi0 (by have := d.g.len; omega)
  obtain ⟨_, hcs⟩ := (h.h.w.below hW.bel).ints
  have hwl := d.g.len
  have hn14 := d.g.n14
  rcases hcs with ⟨rfl, h0⟩ | ⟨bz, off, cap, rfl, _, hbz, hnc, hcm, hcell⟩
  · omega
  have t0 := hcell i hi0 (by omega)
  have hlw : i < ws.length := by omega
  clear hcell hwl
  obtain ⟨p1, c1, hv1⟩ := h.h.t.shape
  subst hv1
  generalize geti ws i = g at *
  rw [fr_doR, show fr 0 = _ from q0, show fr 1 = _ from q1, show fr 10 = _ from q10, show fr 13 = _ from q13, show fr 15 = _ from q15, show fr 16 = _ from q16, show fr 35 = _ from q35, show fr 36 = _ from q36, show fr 37 = _ from q37]
  clear q0 q1 q10 q13 q15 q16 q35 q36 q37
  conv => arg 2; whnf
  go_wp2_with fail
  refine Met.intro (hS _ _ ?_)
  exact ⟨hW, Fr.of _ rfl ⟨rfl, rfl, rfl, rfl, rfl, rfl, rfl, rfl, rfl, trivial⟩⟩

set_option maxRecDepth 100000 in
set_option maxHeartbeats 1000000 in
theorem do19 (w0 : World) (vt vw vl : Value) (ts : List ByteArray) (ws lots : List Int) (top : Int) (h : DH w0 vt vw vl ts ws lots) (d : DR ts ws lots) (k : Int) (v13 : Value) (hn : 0 ≤ geti lots k) (hkk : 0 ≤ k ∧ k < lots.length) (f : Nat) (i y : Int) (hr : DrI ws ts.length (geti lots k % ws.sum) f i y) : T3 Try.prog (fun a w => (Dn w0 ts v13 (.slice none 0 0) (HT ts ws lots k) ([]) w) ∧ Fr 98 [(0, vt), (1, vw), (10, .int .i64 ws.sum), (13, v13), (15, .int .i64 (y - geti ws i)), (16, .int .i64 i), (35, vl), (36, .int .i64 lots.length), (37, .int .i64 k)] a) (sel [1, 1, 1, 1, 1, 0, 1, 4, 4, 1, 1, 0, 4, 1, 1, 1, 1, 0, 4, 4, 1, 4, 1] doR) (fun a w => (Dn w0 ts v13 (.slice none 0 0) (HT ts ws lots k) ([]) w) ∧ Fr 98 [(0, vt), (1, vw), (10, .int .i64 ws.sum), (13, v13), (15, .int .i64 (y - geti ws i)), (16, .int .i64 (i + 1)), (35, vl), (36, .int .i64 lots.length), (37, .int .i64 k)] a) No 9 (fun a w => ∃ v8 : Value, Fr 98 [(8, v8), (9, .int .i64 (drawE ts ws lots top))] a ∧ w.ownsRow w0.heap.size 9 1 v8 (drawL ts ws lots top).length (cellsOf encSt (drawL ts ws lots top)) ∧ Below w0.heap.size w0 w) := by
  refine T3.leaf ?_
  rintro Q JS JX JT K hS hK hX hE hT hR a w ⟨hW, ⟨fr, rfl, q0, q1, q10, q13, q15, q16, q35, q36, q37, _⟩⟩
  have hlt := hr.lt d.g.len
  obtain ⟨⟨hi0, _, hy0, hy1⟩, _⟩ := hr
  have hn14 := d.g.n14
  obtain ⟨p1, c1, hv1⟩ := h.h.t.shape
  subst hv1
  obtain ⟨p2, c2, hv2⟩ := h.h.w.shape
  subst hv2
  obtain ⟨p3, c3, hv3⟩ := h.l.shape
  subst hv3
  rw [fr_doR, show fr 0 = _ from q0, show fr 1 = _ from q1, show fr 10 = _ from q10, show fr 13 = _ from q13, show fr 15 = _ from q15, show fr 16 = _ from q16, show fr 35 = _ from q35, show fr 36 = _ from q36, show fr 37 = _ from q37]
  clear q0 q1 q10 q13 q15 q16 q35 q36 q37
  conv => arg 2; whnf
  go_wp2_with fail
  refine Met.intro (hS _ _ ?_)
  exact ⟨hW, Fr.of _ rfl ⟨rfl, rfl, rfl, rfl, rfl, rfl, rfl, rfl, rfl, trivial⟩⟩

set_option maxRecDepth 100000 in
set_option maxHeartbeats 1000000 in
theorem doL (w0 : World) (vt vw vl : Value) (ts : List ByteArray) (ws lots : List Int) (top : Int) (h : DH w0 vt vw vl ts ws lots) (d : DR ts ws lots) (k : Int) (v13 : Value) (hn : 0 ≤ geti lots k) (hkk : 0 ≤ k ∧ k < lots.length) : T3 Try.prog (fun a w => (Dn w0 ts v13 (.slice none 0 0) (HT ts ws lots k) ([]) w) ∧ Fr 98 [(0, vt), (1, vw), (10, .int .i64 ws.sum), (13, v13), (15, .int .i64 (geti lots k % ws.sum)), (16, .int .i64 0), (35, vl), (36, .int .i64 lots.length), (37, .int .i64 k)] a) (sel [1, 1, 1, 1, 1, 0, 1, 4, 4, 1, 1, 0, 4, 1, 1, 1, 1, 0] doR) (fun a w => (Dn w0 ts v13 (.slice none 0 0) (HT ts ws lots k) ([]) w) ∧ Fr 98 [(0, vt), (1, vw), (10, .int .i64 ws.sum), (13, v13), (16, .int .i64 (drawnF ws (geti lots k % ws.sum) : Nat)), (35, vl), (36, .int .i64 lots.length), (37, .int .i64 k)] a) No 9 (fun a w => ∃ v8 : Value, Fr 98 [(8, v8), (9, .int .i64 (drawE ts ws lots top))] a ∧ w.ownsRow w0.heap.size 9 1 v8 (drawL ts ws lots top).length (cellsOf encSt (drawL ts ws lots top)) ∧ Below w0.heap.size w0 w) := by
  obtain ⟨hp0, hp1⟩ := d.pos
  refine T3.loop (c := (sel [1, 1, 1, 1, 1, 0, 1, 4, 4, 1, 1, 0, 4, 1, 1, 1, 1, 0, 4, 4] doR)) (fun f a w => ∃ i : Int, ∃ y : Int, DrI ws ts.length (geti lots k % ws.sum) f i y ∧ (Dn w0 ts v13 (.slice none 0 0) (HT ts ws lots k) ([]) w) ∧ Fr 98 [(0, vt), (1, vw), (10, .int .i64 ws.sum), (13, v13), (15, .int .i64 y), (16, .int .i64 i), (35, vl), (36, .int .i64 lots.length), (37, .int .i64 k)] a) (fun a w q => ⟨ts.length, 0, (geti lots k % ws.sum), DrI.start (Int.emod_nonneg _ (by omega)) (Int.emod_lt_of_pos _ hp0) (by have := Int.emod_lt_of_pos (geti lots k) hp0; omega), q⟩) (fun f => T3.ex fun i => T3.ex fun y => T3.pure fun hr => ?_)
  refine T3.seq (s := (sel [1, 1, 1, 1, 1, 0, 1, 4, 4, 1, 1, 0, 4, 1, 1, 1, 1, 0, 4, 4, 0] doR)) (c := (sel [1, 1, 1, 1, 1, 0, 1, 4, 4, 1, 1, 0, 4, 1, 1, 1, 1, 0, 4, 4, 1] doR)) (S := fun a w => (geti ws i ≤ y) ∧ (Dn w0 ts v13 (.slice none 0 0) (HT ts ws lots k) ([]) w) ∧ Fr 98 [(0, vt), (1, vw), (10, .int .i64 ws.sum), (13, v13), (15, .int .i64 y), (16, .int .i64 i), (35, vl), (36, .int .i64 lots.length), (37, .int .i64 k)] a) ?_ (T3.pure fun hle => T3.block (id' := 5) (c := (sel [1, 1, 1, 1, 1, 0, 1, 4, 4, 1, 1, 0, 4, 1, 1, 1, 1, 0, 4, 4, 1, 4] doR)) (by decide) ?_)
  · refine T3.test (s := (sel [1, 1, 1, 1, 1, 0, 1, 4, 4, 1, 1, 0, 4, 1, 1, 1, 1, 0, 4, 4, 0, 0] doR)) (x := .skip) (y := .exit 4) (C := fun q => q = decide (geti ws i ≤ y)) (W := fun w => Dn w0 ts v13 (.slice none 0 0) (HT ts ws lots k) ([]) w) (by decide) ((do17 w0 vt vw vl ts ws lots top h d k v13 hn hkk f i y hr).noX) (T3.skip ?_) (T3.exit ?_)
    · rintro a w ⟨hF, hq, hw⟩
      exact ⟨by simpa using hq.symm, hw, hF.tail⟩
    · rintro a w ⟨hq, hw, hF⟩
      have e := hr.stop d.g.len (by have := hq.symm; simp at this; omega)
      exact ⟨hw, by rw [e]; exact hF.sub (by simp)⟩
  · obtain ⟨f', hf', hr'⟩ := hr.go d.g.len d.g.lo hle
    exact (((T3.seq (s := (sel [1, 1, 1, 1, 1, 0, 1, 4, 4, 1, 1, 0, 4, 1, 1, 1, 1, 0, 4, 4, 1, 4, 0] doR)) (c := (sel [1, 1, 1, 1, 1, 0, 1, 4, 4, 1, 1, 0, 4, 1, 1, 1, 1, 0, 4, 4, 1, 4, 1] doR)) (do18 w0 vt vw vl ts ws lots top h d k v13 hn hkk f i y hr hle) (do19 w0 vt vw vl ts ws lots top h d k v13 hn hkk f i y hr)).noX)).post (fun a w q => ⟨f', hf', _, _, hr', q⟩)

set_option maxRecDepth 100000 in
set_option maxHeartbeats 1000000 in
theorem do20 (w0 : World) (vt vw vl : Value) (ts : List ByteArray) (ws lots : List Int) (top : Int) (h : DH w0 vt vw vl ts ws lots) (d : DR ts ws lots) (k : Int) (v13 : Value) (hn : 0 ≤ geti lots k) (hkk : 0 ≤ k ∧ k < lots.length) : T3 Try.prog (fun a w => (Dn w0 ts v13 (.slice none 0 0) (HT ts ws lots k) ([]) w) ∧ Fr 98 [(0, vt), (1, vw), (10, .int .i64 ws.sum), (13, v13), (16, .int .i64 (drawnF ws (geti lots k % ws.sum) : Nat)), (35, vl), (36, .int .i64 lots.length), (37, .int .i64 k)] a) (sel [1, 1, 1, 1, 1, 0, 1, 4, 4, 1, 1, 0, 4, 1, 1, 1, 1, 1] doR) (fun a w => ∃ (v13 : Value), (Dn w0 ts v13 (.slice none 0 0) (HT ts ws lots (k + 1)) ([]) w) ∧ Fr 98 [(0, vt), (1, vw), (10, .int .i64 ws.sum), (13, v13), (35, vl), (36, .int .i64 lots.length), (37, .int .i64 k)] a) No 9 (fun a w => ∃ v8 : Value, Fr 98 [(8, v8), (9, .int .i64 (drawE ts ws lots top))] a ∧ w.ownsRow w0.heap.size 9 1 v8 (drawL ts ws lots top).length (cellsOf encSt (drawL ts ws lots top)) ∧ Below w0.heap.size w0 w) := by
  refine T3.leaf ?_
  rintro Q JS JX JT K hS hK hX hE hT hR a w ⟨hW, ⟨fr, rfl, q0, q1, q10, q13, q16, q35, q36, q37, _⟩⟩
  obtain ⟨hk0, hk1⟩ := hkk
  have hln := h.ln
  have htn := h.h.tn
  have hle := d.le
  have hlen := HT_len ts ws lots k hk0 (by omega)
  have hHs := HT_succ ts ws lots k hk0 hk1
  have HP := Lib.hid (placed_ref w v13 ts.length (HT ts ws lots k) (drawnF ws (geti lots k % ws.sum)) w0.heap.size (Row.of_owns hW.hv) htn (d.have k hk0 (by omega)) (by omega) (d.drawn _))
  have HHs := Lib.hid hHs
  clear hHs
  generalize drawnF ws (geti lots k % ws.sum) = dr at *
  generalize HT ts ws lots (k + 1) = HK1 at *
  generalize HT ts ws lots k = H at *
  generalize nxt ts.length H dr = nx at *
  have HA := Lib.hid (fun w' v' => Dn.appH (w' := w') (v' := v') (j := nx) (hW.alloc (.cells #[.int .i64 (nx : Nat)] 3)))
  obtain ⟨p9, c9, hv9⟩ := (Row.of_owns hW.hv).shape
  subst hv9
  obtain ⟨p1, c1, hv1⟩ := h.h.t.shape
  subst hv1
  have hE := el_intD
  have hbs := hW.bel.size
  rw [fr_doR, show fr 0 = _ from q0, show fr 1 = _ from q1, show fr 10 = _ from q10, show fr 13 = _ from q13, show fr 16 = _ from q16, show fr 35 = _ from q35, show fr 36 = _ from q36, show fr 37 = _ from q37]
  clear q0 q1 q10 q13 q16 q35 q36 q37
  conv => arg 2; whnf
  go_wp2_with fail
  refine HP.out.mono ?_
  rintro e w1 ⟨rfl, rfl⟩
  go_wp2_with (at_builtin; refine app_law rfl _ _ _ rfl hE (hW.hv.alloc _) rfl [.int .i64 (nx : Nat)] rfl rfl (cells_new w1 #[_] _) (by simp [Value.oneCell']) (by omega) (by simp; omega) ?_; intro v' w3 hown3 hgr)
  refine Met.intro (hS _ _ ?_)
  have := HA.out w3 v' hown3 hgr
  refine ⟨v', ?_, Fr.of _ rfl ⟨rfl, rfl, rfl, rfl, rfl, rfl, rfl, trivial⟩⟩
  rw [HHs.out]
  exact this

end Go.Proofs.Ytkdimgghljklmaa
/-
  Lots: all rows of lots, the reference's count: what holds; the loop that calls itself. Conditions: right weights.
-/
set_option linter.unusedVariables false
namespace Go.Bw
theorem chF_bound {ws : Nat → Int} {n place who : Nat} {S : Int} (hw : ∀ i, i < n → 0 ≤ ws i) (hs : sumN n ws ≤ S) (hS : 1 ≤ S) : ∀ (m : Nat) (h : List Nat), 0 ≤ chF ws n place who m h ∧ chF ws n place who m h ≤ S ^ m
  | 0, h => by
    unfold chF
    rw [Int.pow_zero]
    split <;> omega
  | m + 1, h => by
    have hP : 0 ≤ S ^ m := Int.pow_nonneg (by omega)
    unfold chF
    refine ⟨sumN_nonneg fun i hi => Int.mul_nonneg (hw i hi) (chF_bound hw hs hS m _).1, ?_⟩
    refine Int.le_trans (sumN_le fun i hi => Int.mul_le_mul_of_nonneg_left (chF_bound hw hs hS m _).2 (hw i hi)) ?_
    rw [sumN_mul, Int.pow_succ, Int.mul_comm (S ^ m) S]
    exact Int.mul_le_mul_of_nonneg_right hs hP
theorem allL_full {n : Nat} {h : List Nat} (hh : Have n h) : (allL n h).length = n := by
  have h1 := len_sub (allL n h) (List.range n) (allL_nodup hh) fun x hx => by
    unfold allL restL at hx
    rcases List.mem_append.1 hx with hx | hx
    · exact List.mem_range.2 (hh.lt x hx)
    · exact (List.mem_filter.1 hx).1
  have h2 := len_sub (List.range n) (allL n h) List.nodup_range fun x hx => by
    unfold allL restL
    by_cases hc : x ∈ h
    · exact List.mem_append.2 (.inl hc)
    · exact List.mem_append.2 (.inr (List.mem_filter.2 ⟨hx, by simpa using hc⟩))
  simp at h1 h2
  omega
end Go.Bw
namespace Go.Proofs.Ytkdimgghljklmaa
open Go.RowKit Go.Bw
theorem clone_l (v : Value) (n : Nat) (l : List Int) (base : Nat) (w : World) (h : Row w base 1 v n (l.map (.int .i64))) (hn : n ≤ 1000) :
    Calls Try.prog 51 #[v] w fun e w' => ∃ v', e = .returned v' ∧ w'.ownsRow w.heap.size 3 1 v' n (l.map (.int .i64)) ∧ Below w.heap.size w w' := by
  obtain ⟨hl, hc⟩ := h.ints
  subst hl
  rcases hc with ⟨rfl, h0⟩ | ⟨b, off, cap, rfl, _, hbs, hnc, hcm, hcell⟩
  · refine (Try.slices_Clone_int_nil 0 0 w).mono ?_
    rintro e w' ⟨rfl, rfl⟩
    obtain rfl : l = [] := List.length_eq_zero_iff.1 h0
    exact ⟨_, rfl, World.ownsRow_nil _ _ _ _, Below.refl _ _⟩
  · refine (Try.slices_Clone_int b off l.length cap l w (Nat.le_refl _) (by omega) (fun j hj => ?_)).mono ?_
    · have := hcell (j : Int) (by omega) (by omega)
      simpa [geti, List.getD, hj] using this
    · rintro e w' ⟨v', rfl, ho, _, hb⟩
      rw [List.take_length] at ho
      exact ⟨v', rfl, ho, hb⟩
theorem sumN_geti (ws : List Int) : ∀ k : Nat, k ≤ ws.length → sumN k (fun i => geti ws (i : Int)) = sumTo ws k
  | 0, _ => by simp [sumTo, sumN_zero]
  | k + 1, hk => by
    rw [sumN_succ, sumN_geti ws k (by omega)]
    have := sumTo_succ ws (k : Int) (by omega) (by omega)
    rw [show ((k : Int) + 1) = ((k + 1 : Nat) : Int) by omega] at this
    rw [this]
theorem sumN_ws (ws : List Int) (n : Nat) (h : ws.length = n) : sumN n (fun i => geti ws (i : Int)) = ws.sum := by
  subst h
  rw [sumN_geti ws _ (Nat.le_refl _), sumTo_all]
/-- The count behind the first k. -/
def outC (ws : List Int) (nt place who m : Nat) (h : List Nat) (k : Nat) : Int := sumN k fun i => geti ws (i : Int) * chF (fun i => geti ws (i : Int)) nt place who m (h ++ [nxt nt h i])
theorem outC_all (ws : List Int) (nt place who m : Nat) (h : List Nat) : outC ws nt place who m h nt = chF (fun i => geti ws (i : Int)) nt place who (m + 1) h := by
  unfold outC
  conv => rhs; unfold chF
theorem outC_succ (ws : List Int) (nt place who m : Nat) (h : List Nat) (k : Int) (h0 : 0 ≤ k) : outC ws nt place who m h (k + 1).toNat = outC ws nt place who m h k.toNat + geti ws k * chF (fun i => geti ws (i : Int)) nt place who m (h ++ [nxt nt h k.toNat]) := by
  unfold outC
  rw [show (k + 1).toNat = k.toNat + 1 by omega, sumN_succ, Int.toNat_of_nonneg h0]
/-- What stays small. -/
theorem ch_step {nt who place top : Nat} {ws : List Int} (f : WF nt ws who place top) (m : Nat) (h : List Nat) (t good : Int) (t0 : 0 ≤ t) (g0 : 0 ≤ good) (mx : good + t * ws.sum ^ (m + 1) ≤ 38416000000000000) (k : Nat) (hk : k < nt) :
    0 ≤ t * geti ws k ∧ t * geti ws k ≤ 38416000000000000 ∧ 0 ≤ good + t * outC ws nt place who m h k ∧ good + t * outC ws nt place who m h k + t * geti ws k * ws.sum ^ m ≤ 38416000000000000 := by
  obtain ⟨s1, _⟩ := sum_b f
  have hw : ∀ i, i < nt → 0 ≤ geti ws (i : Int) := fun i hi => by have := geti_lo f.lo (k := (i : Int)) (by omega) (by have := f.len; omega); omega
  have hsum := sumN_ws ws nt f.len
  have hb := chF_bound (place := place) (who := who) hw (Int.le_of_eq hsum) s1 m
  have hP : 1 ≤ ws.sum ^ m := by
    have := Int.pow_pos (n := ws.sum) (m := m) (by omega)
    omega
  have ho0 : 0 ≤ outC ws nt place who m h k := sumN_nonneg fun i hi => Int.mul_nonneg (hw i (by omega)) (hb _).1
  have ho1 : outC ws nt place who m h k ≤ sumN k (fun i => geti ws (i : Int)) * ws.sum ^ m := by
    rw [← sumN_mul]
    exact sumN_le fun i hi => Int.mul_le_mul_of_nonneg_left (hb _).2 (hw i (by omega))
  have hk1 := (sumN_mono hw (k + 1) (by omega)).2
  rw [sumN_succ, hsum] at hk1
  have hgk := hw k hk
  have e1 : (sumN k (fun i => geti ws (i : Int)) + geti ws k) * ws.sum ^ m ≤ ws.sum * ws.sum ^ m := Int.mul_le_mul_of_nonneg_right hk1 (by omega)
  have e2 : outC ws nt place who m h k + geti ws k * ws.sum ^ m ≤ ws.sum ^ (m + 1) := by
    rw [Int.pow_succ, Int.mul_comm (ws.sum ^ m)]
    rw [Int.add_mul] at e1
    omega
  have e3 := Int.mul_le_mul_of_nonneg_left e2 t0
  rw [Int.mul_add, ← Int.mul_assoc] at e3
  have e4 : 0 ≤ t * geti ws k := Int.mul_nonneg t0 hgk
  have e5 := Int.mul_le_mul_of_nonneg_left hP e4
  have e6 := Int.mul_nonneg t0 ho0
  rw [Int.mul_one] at e5
  exact ⟨e4, by omega, by omega, by omega⟩
/-- The blocks of what the closure captures. -/
structure CB where
  t : Nat
  w : Nat
  f : Nat
  e : Nat
  p : Nat
  o : Nat
  g : Nat
/-- What the closure captures, in memory. -/
structure CX (B : CB) (nt : Nat) (ws : List Int) (vt vw : Value) (top place who : Nat) (good : Int) (w : World) : Prop where
  ct : w.cell? ⟨B.t, 0, none⟩ = some (.int .i64 top)
  cw : w.cell? ⟨B.w, 0, none⟩ = some vw
  cf : w.cell? ⟨B.f, 0, none⟩ = some (.func (.func 50) #[] #[.pointer (some ⟨B.t, 0, none⟩), .pointer (some ⟨B.w, 0, none⟩), .pointer (some ⟨B.f, 0, none⟩), .pointer (some ⟨B.e, 0, none⟩), .pointer (some ⟨B.p, 0, none⟩), .pointer (some ⟨B.o, 0, none⟩), .pointer (some ⟨B.g, 0, none⟩)])
  ce : w.cell? ⟨B.e, 0, none⟩ = some vt
  cp : w.cell? ⟨B.p, 0, none⟩ = some (.int .i64 (place + 1))
  co : w.cell? ⟨B.o, 0, none⟩ = some (.int .i64 who)
  cg : w.cell? ⟨B.g, 0, none⟩ = some (.int .i64 good)
  fg : w.frozen? ⟨B.g, 0, none⟩ = false
  wr : Row w 0 1 vw nt (ws.map (.int .i64))
  vs : ∃ p c, vt = .slice p nt c
  nt' : B.g ≠ B.t
  nw : B.g ≠ B.w
  nf : B.g ≠ B.f
  ne : B.g ≠ B.e
  np : B.g ≠ B.p
  no : B.g ≠ B.o
  nv : vw.ownBlock ≠ some B.g
section
variable {B : CB} {nt : Nat} {ws : List Int} {vt vw : Value} {top place who : Nat} {good good' : Int} {w w' : World}
theorem CX.lt (h : CX B nt ws vt vw top place who good w) : B.g < w.heap.size := World.block_lt_of_cell? w _ h.cg
theorem CX.grow (h : CX B nt ws vt vw top place who good w) (g : w.grownBy w' (some B.g)) (hc : w'.cell? ⟨B.g, 0, none⟩ = some (.int .i64 good')) (hf : w'.frozen? ⟨B.g, 0, none⟩ = false) : CX B nt ws vt vw top place who good' w' := by
  have k : ∀ b v, w.cell? ⟨b, 0, none⟩ = some v → B.g ≠ b → w'.cell? ⟨b, 0, none⟩ = some v := fun b v hb hne =>
    (World.cell?_of_block (a := ⟨b, 0, none⟩) (g.block b (World.block_lt_of_cell? w _ hb) (fun e => hne (Option.some.inj e).symm))).trans hb
  refine ⟨k _ _ h.ct h.nt', k _ _ h.cw h.nw, k _ _ h.cf h.nf, k _ _ h.ce h.ne, k _ _ h.cp h.np, k _ _ h.co h.no, hc, hf, ?_, h.vs, h.nt', h.nw, h.nf, h.ne, h.np, h.no, h.nv⟩
  exact h.wr.swap (fun j hj => g.block j (row_lt h.wr j hj) (fun e => h.nv (hj.trans e))) g.size
theorem CX.below (h : CX B nt ws vt vw top place who good w) (b : Below w.heap.size w w') : CX B nt ws vt vw top place who good w' :=
  h.grow (grown_of_below b) ((b.cell (p := ⟨B.g, 0, none⟩) h.lt).trans h.cg) ((b.frozen (p := ⟨B.g, 0, none⟩) h.lt).trans h.fg)
end
/-- What holds as the closure is called. -/
structure CC (w0 : World) (B : CB) (nt : Nat) (ws : List Int) (vt vw : Value) (top place who : Nat) (vh : Value) (h : List Nat) (t good : Int) (m : Nat) : Prop where
  f : WF nt ws who place top
  hh : Have nt h
  hm : h.length + m = top
  hr : Row w0 0 1 vh h.length ((natsL h).map (.int .i64))
  hv : vh.ownBlock ≠ some B.g
  cx : CX B nt ws vt vw top place who good w0
  t0 : 0 ≤ t
  g0 : 0 ≤ good
  mx : good + t * ws.sum ^ m ≤ 38416000000000000
structure CW (w0 : World) (B : CB) (nt : Nat) (ws : List Int) (vt vw : Value) (top place who : Nat) (good : Int) (w : World) : Prop where
  cx : CX B nt ws vt vw top place who good w
  gr : w0.grownBy w (some B.g)
theorem CW.hr {w0 : World} {B : CB} {nt : Nat} {ws : List Int} {vt vw : Value} {top place who : Nat} {vh : Value} {h : List Nat} {t good good' : Int} {m : Nat} {w : World} (l : CW w0 B nt ws vt vw top place who good' w) (c : CC w0 B nt ws vt vw top place who vh h t good m) : Row w 0 1 vh h.length ((natsL h).map (.int .i64)) :=
  c.hr.swap (fun j hj => l.gr.block j (row_lt c.hr j hj) (fun e => c.hv (hj.trans e))) l.gr.size
theorem CW.below {w0 : World} {B : CB} {nt : Nat} {ws : List Int} {vt vw : Value} {top place who : Nat} {good' : Int} {w w' : World} (l : CW w0 B nt ws vt vw top place who good' w) (b : Below w.heap.size w w') : CW w0 B nt ws vt vw top place who good' w' :=
  ⟨l.cx.below b, grown_trans l.gr (grown_of_below b)⟩
def ChC (m : Nat) : Prop := ∀ (w0 : World) (B : CB) (nt : Nat) (ws : List Int) (vt vw : Value) (top place who : Nat) (vh : Value) (h : List Nat) (t good : Int), CC w0 B nt ws vt vw top place who vh h t good m →
  Calls Try.prog 50 #[vh, .int .i64 t, .pointer (some ⟨B.t, 0, none⟩), .pointer (some ⟨B.w, 0, none⟩), .pointer (some ⟨B.f, 0, none⟩), .pointer (some ⟨B.e, 0, none⟩), .pointer (some ⟨B.p, 0, none⟩), .pointer (some ⟨B.o, 0, none⟩), .pointer (some ⟨B.g, 0, none⟩)] w0 fun e w' => e = .returned (.tuple #[]) ∧ CW w0 B nt ws vt vw top place who (good + t * chF (fun i => geti ws (i : Int)) nt place who m h) w'
noncomputable def clR : Code := (Try.f50.body).getD .skip
set_option maxRecDepth 100000 in
theorem fr_clR (f : Nat → Value) : frame 65 f = ⟨#[f 0, f 1, f 2, f 3, f 4, f 5, f 6, f 7, f 8, f 9, f 10, f 11, f 12, f 13, f 14, f 15, f 16, f 17, f 18, f 19, f 20, f 21, f 22, f 23, f 24, f 25, f 26, f 27, f 28, f 29, f 30, f 31, f 32, f 33, f 34, f 35, f 36, f 37, f 38, f 39, f 40, f 41, f 42, f 43, f 44, f 45, f 46, f 47, f 48, f 49, f 50, f 51, f 52, f 53, f 54, f 55, f 56, f 57, f 58, f 59, f 60, f 61, f 62, f 63, f 64], []⟩ := by rfl
set_option maxRecDepth 100000 in
set_option maxHeartbeats 1000000 in
theorem cl0 (w0 : World) (B : CB) (nt : Nat) (ws : List Int) (vt vw : Value) (top place who : Nat) (vh : Value) (h : List Nat) (t good : Int) (m : Nat) (c : CC w0 B nt ws vt vw top place who vh h t good m) : T3 Try.prog (fun a w => (CW w0 B nt ws vt vw top place who (good) w) ∧ Fr 65 [(0, vh), (1, .int .i64 t), (2, .pointer (some ⟨B.t, 0, none⟩)), (3, .pointer (some ⟨B.w, 0, none⟩)), (4, .pointer (some ⟨B.f, 0, none⟩)), (5, .pointer (some ⟨B.e, 0, none⟩)), (6, .pointer (some ⟨B.p, 0, none⟩)), (7, .pointer (some ⟨B.o, 0, none⟩)), (8, .pointer (some ⟨B.g, 0, none⟩))] a) (sel [0, 0] clR) (fun a w => ∃ q, Fr 65 ((17, .bool q) :: [(0, vh), (1, .int .i64 t), (2, .pointer (some ⟨B.t, 0, none⟩)), (3, .pointer (some ⟨B.w, 0, none⟩)), (4, .pointer (some ⟨B.f, 0, none⟩)), (5, .pointer (some ⟨B.e, 0, none⟩)), (6, .pointer (some ⟨B.p, 0, none⟩)), (7, .pointer (some ⟨B.o, 0, none⟩)), (8, .pointer (some ⟨B.g, 0, none⟩))]) a ∧ ((q = decide (h.length < top)) ∧ CW w0 B nt ws vt vw top place who (good) w)) No 9 No := by
  refine T3.leaf ?_
  rintro Q JS JX JT K hS hK hX hE hT hR a w ⟨hW, ⟨fr, rfl, q0, q1, q2, q3, q4, q5, q6, q7, q8, _⟩⟩
  have HW := Lib.hid hW
  have x0 := hW.cx.ct
  obtain ⟨p1, c1, hv1⟩ := (hW.hr c).shape
  subst hv1
  clear hW
  generalize hq : decide (h.length < top) = q at *
  rw [fr_clR, show fr 0 = _ from q0, show fr 1 = _ from q1, show fr 2 = _ from q2, show fr 3 = _ from q3, show fr 4 = _ from q4, show fr 5 = _ from q5, show fr 6 = _ from q6, show fr 7 = _ from q7, show fr 8 = _ from q8]
  clear q0 q1 q2 q3 q4 q5 q6 q7 q8
  conv => arg 2; whnf
  go_wp2_with fail
  refine Met.intro (hS _ _ ?_)
  exact ⟨_, Fr.of _ rfl ⟨rfl, rfl, rfl, rfl, rfl, rfl, rfl, rfl, rfl, rfl, trivial⟩, rfl, HW.out⟩

set_option maxRecDepth 100000 in
set_option maxHeartbeats 1000000 in
theorem cl1 (w0 : World) (B : CB) (nt : Nat) (ws : List Int) (vt vw : Value) (top place who : Nat) (vh : Value) (h : List Nat) (t good : Int) (m : Nat) (c : CC w0 B nt ws vt vw top place who vh h t good (m + 1)) : T3 Try.prog (fun a w => (CW w0 B nt ws vt vw top place who (good) w) ∧ Fr 65 [(0, vh), (1, .int .i64 t), (2, .pointer (some ⟨B.t, 0, none⟩)), (3, .pointer (some ⟨B.w, 0, none⟩)), (4, .pointer (some ⟨B.f, 0, none⟩)), (5, .pointer (some ⟨B.e, 0, none⟩)), (6, .pointer (some ⟨B.p, 0, none⟩)), (7, .pointer (some ⟨B.o, 0, none⟩)), (8, .pointer (some ⟨B.g, 0, none⟩))] a) (sel [0, 1, 2, 0, 0] clR) (fun a w => (0 ≤ (0 : Int) ∧ (0 : Int) ≤ nt) ∧ (CW w0 B nt ws vt vw top place who (good + t * outC ws nt place who m h (0 : Int).toNat) w) ∧ Fr 65 [(0, vh), (1, .int .i64 t), (2, .pointer (some ⟨B.t, 0, none⟩)), (3, .pointer (some ⟨B.w, 0, none⟩)), (4, .pointer (some ⟨B.f, 0, none⟩)), (5, .pointer (some ⟨B.e, 0, none⟩)), (6, .pointer (some ⟨B.p, 0, none⟩)), (7, .pointer (some ⟨B.o, 0, none⟩)), (8, .pointer (some ⟨B.g, 0, none⟩)), (18, vw), (19, .int .i64 nt), (20, .int .i64 0)] a) No 9 No := by
  refine T3.leaf ?_
  rintro Q JS JX JT K hS hK hX hE hT hR a w ⟨hW, ⟨fr, rfl, q0, q1, q2, q3, q4, q5, q6, q7, q8, _⟩⟩
  have HW := Lib.hid hW
  have x0 := hW.cx.cw
  obtain ⟨p1, c1, hv1⟩ := hW.cx.wr.shape
  subst hv1
  have HZ := Lib.hid (show good + t * outC ws nt place who m h (0 : Int).toNat = good by simp [outC, sumN_zero])
  clear hW
  rw [fr_clR, show fr 0 = _ from q0, show fr 1 = _ from q1, show fr 2 = _ from q2, show fr 3 = _ from q3, show fr 4 = _ from q4, show fr 5 = _ from q5, show fr 6 = _ from q6, show fr 7 = _ from q7, show fr 8 = _ from q8]
  clear q0 q1 q2 q3 q4 q5 q6 q7 q8
  conv => arg 2; whnf
  go_wp2_with fail
  refine Met.intro (hS _ _ ?_)
  rw [HZ.out]
  exact ⟨⟨by omega, by omega⟩, HW.out, Fr.of _ rfl ⟨rfl, rfl, rfl, rfl, rfl, rfl, rfl, rfl, rfl, rfl, rfl, rfl, trivial⟩⟩

set_option maxRecDepth 100000 in
set_option maxHeartbeats 1000000 in
theorem cl3 (w0 : World) (B : CB) (nt : Nat) (ws : List Int) (vt vw : Value) (top place who : Nat) (vh : Value) (h : List Nat) (t good : Int) (m : Nat) (c : CC w0 B nt ws vt vw top place who vh h t good (m + 1)) (k : Int) : T3 Try.prog (fun a w => (0 ≤ k ∧ k < nt) ∧ (CW w0 B nt ws vt vw top place who (good + t * outC ws nt place who m h (k : Int).toNat) w) ∧ Fr 65 [(0, vh), (1, .int .i64 t), (2, .pointer (some ⟨B.t, 0, none⟩)), (3, .pointer (some ⟨B.w, 0, none⟩)), (4, .pointer (some ⟨B.f, 0, none⟩)), (5, .pointer (some ⟨B.e, 0, none⟩)), (6, .pointer (some ⟨B.p, 0, none⟩)), (7, .pointer (some ⟨B.o, 0, none⟩)), (8, .pointer (some ⟨B.g, 0, none⟩)), (18, vw), (19, .int .i64 nt), (20, .int .i64 k)] a) (sel [0, 1, 2, 0, 1, 4, 4, 1, 1, 0, 4, 0] clR) (fun a w => (0 ≤ k ∧ k < nt) ∧ (CW w0 B nt ws vt vw top place who (good + t * outC ws nt place who m h (k : Int).toNat) w) ∧ Fr 65 [(0, vh), (1, .int .i64 t), (2, .pointer (some ⟨B.t, 0, none⟩)), (3, .pointer (some ⟨B.w, 0, none⟩)), (4, .pointer (some ⟨B.f, 0, none⟩)), (5, .pointer (some ⟨B.e, 0, none⟩)), (6, .pointer (some ⟨B.p, 0, none⟩)), (7, .pointer (some ⟨B.o, 0, none⟩)), (8, .pointer (some ⟨B.g, 0, none⟩)), (11, .int .i64 k), (12, .int .i64 (geti ws k)), (18, vw), (19, .int .i64 nt), (20, .int .i64 k)] a) No 9 No := by
  refine T3.leaf ?_
  rintro Q JS JX JT K hS hK hX hE hT hR a w ⟨hpre, hW, ⟨fr, rfl, q0, q1, q2, q3, q4, q5, q6, q7, q8, q18, q19, q20, _⟩⟩
  have hpp := Lib.hid hpre
  obtain ⟨hk0, hk1⟩ := hpre
  have HW := Lib.hid hW
  obtain ⟨_, hcs⟩ := hW.cx.wr.ints
  have n14 := c.f.n14
  rcases hcs with ⟨rfl, h0⟩ | ⟨bz, off, cap, rfl, _, hbz, hnc, hcm, hcell⟩
  · omega
  have t0 := hcell k hk0 hk1
  clear hcell hW
  rw [fr_clR, show fr 0 = _ from q0, show fr 1 = _ from q1, show fr 2 = _ from q2, show fr 3 = _ from q3, show fr 4 = _ from q4, show fr 5 = _ from q5, show fr 6 = _ from q6, show fr 7 = _ from q7, show fr 8 = _ from q8, show fr 18 = _ from q18, show fr 19 = _ from q19, show fr 20 = _ from q20]
  clear q0 q1 q2 q3 q4 q5 q6 q7 q8 q18 q19 q20
  conv => arg 2; whnf
  go_wp2_with fail
  refine Met.intro (hS _ _ ?_)
  exact ⟨hpp.out, HW.out, Fr.of _ rfl ⟨rfl, rfl, rfl, rfl, rfl, rfl, rfl, rfl, rfl, rfl, rfl, rfl, rfl, rfl, trivial⟩⟩

set_option maxRecDepth 100000 in
set_option maxHeartbeats 1000000 in
theorem cl4 (w0 : World) (B : CB) (nt : Nat) (ws : List Int) (vt vw : Value) (top place who : Nat) (vh : Value) (h : List Nat) (t good : Int) (m : Nat) (c : CC w0 B nt ws vt vw top place who vh h t good (m + 1)) (k : Int) (hrec : ChC m) : T3 Try.prog (fun a w => (0 ≤ k ∧ k < nt) ∧ (CW w0 B nt ws vt vw top place who (good + t * outC ws nt place who m h (k : Int).toNat) w) ∧ Fr 65 [(0, vh), (1, .int .i64 t), (2, .pointer (some ⟨B.t, 0, none⟩)), (3, .pointer (some ⟨B.w, 0, none⟩)), (4, .pointer (some ⟨B.f, 0, none⟩)), (5, .pointer (some ⟨B.e, 0, none⟩)), (6, .pointer (some ⟨B.p, 0, none⟩)), (7, .pointer (some ⟨B.o, 0, none⟩)), (8, .pointer (some ⟨B.g, 0, none⟩)), (11, .int .i64 k), (12, .int .i64 (geti ws k)), (18, vw), (19, .int .i64 nt), (20, .int .i64 k)] a) (sel [0, 1, 2, 0, 1, 4, 4, 1, 1, 0, 4, 1] clR) (fun a w => (0 ≤ k ∧ k < nt) ∧ (CW w0 B nt ws vt vw top place who (good + t * outC ws nt place who m h ((k + 1) : Int).toNat) w) ∧ Fr 65 [(0, vh), (1, .int .i64 t), (2, .pointer (some ⟨B.t, 0, none⟩)), (3, .pointer (some ⟨B.w, 0, none⟩)), (4, .pointer (some ⟨B.f, 0, none⟩)), (5, .pointer (some ⟨B.e, 0, none⟩)), (6, .pointer (some ⟨B.p, 0, none⟩)), (7, .pointer (some ⟨B.o, 0, none⟩)), (8, .pointer (some ⟨B.g, 0, none⟩)), (18, vw), (19, .int .i64 nt), (20, .int .i64 k)] a) No 9 No := by
  refine T3.leafN ?_
  rintro JS hS a w ⟨hpre, hW, ⟨fr, rfl, q0, q1, q2, q3, q4, q5, q6, q7, q8, q11, q12, q18, q19, q20, _⟩⟩
  have hpp := Lib.hid hpre
  obtain ⟨hk0, hk1⟩ := hpre
  have f := c.f
  have n14 := c.f.n14
  have hlt : h.length < nt := by have := c.hm; have := c.f.tn; omega
  have hi : k.toNat < nt := by omega
  obtain ⟨hnc, hnx⟩ := nxt_free c.hh hlt hi
  have hkk : ((k.toNat : Nat) : Int) = k := by omega
  have hst := ch_step f m h t good c.t0 c.g0 c.mx k.toNat hi
  rw [hkk] at hst
  obtain ⟨e1, e2, e3, e4⟩ := hst
  have hrow := hW.hr c
  have HCL := Lib.hid (fun w' (b : Below w.heap.size w w') => clone_l vh h.length (natsL h) 0 w' (hrow.below b) (by omega))
  have hpl := fun w' (b : Below w.heap.size w w') => placed_ref w' vh nt h k.toNat 0 (hrow.below b) (by omega) c.hh hlt hi
  rw [hkk] at hpl
  have HPL := Lib.hid hpl
  have hgg := hW.cx.lt
  have HREC := Lib.hid (fun w3 v3 (b : Below w.heap.size w w3) (ho : w3.ownsRow w.heap.size 3 1 v3 (h.length + 1) ((natsL h).map (.int .i64) ++ [.int .i64 ((nxt nt h k.toNat : Nat) : Int)])) =>
    hrec w3 B nt ws vt vw top place who v3 (h ++ [nxt nt h k.toNat]) (t * geti ws k) (good + t * outC ws nt place who m h k.toNat)
      ⟨f, c.hh.snoc hnx hnc, by have := c.hm; simp; omega, (by rw [natsL_snoc, List.map_append, List.length_append]; exact (Row.of_owns ho).mono (Nat.zero_le _)), (fun e => by have := (ho.lt _ e).1; omega), hW.cx.below b, e1, e3, e4⟩)
  have hsx := outC_succ ws nt place who m h k hk0
  have HS := Lib.hid (show good + t * outC ws nt place who m h (k + 1).toNat = good + t * outC ws nt place who m h k.toNat + t * geti ws k * chF (fun i => geti ws (i : Int)) nt place who m (h ++ [nxt nt h k.toNat]) by rw [hsx, Int.mul_add, ← Int.mul_assoc, ← Int.add_assoc])
  have HW := Lib.hid hW
  have x0 := hW.cx.cf
  have x3 := hW.cx.ce
  have hnf := hW.cx.nf
  have hne := hW.cx.ne
  obtain ⟨pt, ct, hvt⟩ := hW.cx.vs
  obtain ⟨p1, c1, hv1⟩ := hrow.shape
  subst hv1
  subst hvt
  clear hW hrow hsx hnx hnc hkk hpl e3 e4 hrec
  generalize chF (fun i => geti ws (i : Int)) nt place who m (h ++ [nxt nt h k.toNat]) = cv at *
  generalize good + t * outC ws nt place who m h (k + 1).toNat = gk1 at *
  generalize good + t * outC ws nt place who m h k.toNat = gk at *
  generalize nxt nt h k.toNat = nx at *
  generalize geti ws k = wk at *
  rw [fr_clR, show fr 0 = _ from q0, show fr 1 = _ from q1, show fr 2 = _ from q2, show fr 3 = _ from q3, show fr 4 = _ from q4, show fr 5 = _ from q5, show fr 6 = _ from q6, show fr 7 = _ from q7, show fr 8 = _ from q8, show fr 11 = _ from q11, show fr 12 = _ from q12, show fr 18 = _ from q18, show fr 19 = _ from q19, show fr 20 = _ from q20]
  clear q0 q1 q2 q3 q4 q5 q6 q7 q8 q11 q12 q18 q19 q20
  conv => arg 2; whnf
  refine wp_region_mix (some B.g) [(true, 0), (true, 1), (true, 3), (true, 5), (true, 6), (true, 10), (true, 11), (true, 4), (true, 12), (false, 2), (false, 7), (false, 8), (false, 9), (false, 13)] (by kernel_rfl) (by kernel_rfl) (by intro c a d v w h; cases d <;> exact h) ?_
  simp only [pickFlat, List.filterMap_cons, List.filterMap_nil, List.getElem?_cons_succ, List.getElem?_cons_zero, Option.map_some]
  have A0 := wof_at (w₁ := w.drew) (row := some B.g) (a := ⟨B.f, 0, none⟩) x0 (fun e => hnf (Option.some.inj e))
  have A3 := wof_at (w₁ := w.drew) (row := some B.g) (a := ⟨B.e, 0, none⟩) x3 (fun e => hne (Option.some.inj e))
  refine flat_hide (fun W hH hC hN hE => ?_)
  iterate 7 (refine hH.out _ _ _ _ (fun K hK => ?_); go_simp; refine hK _ ?_; clear hK K)
  iterate 2 (refine hH.out _ _ _ _ (fun K hK => ?_); go_simp; refine hK _ ?_; clear hK K)
  refine hC.out _ _ _ _ (by first | rfl | go_simp) (fun K hK => ?_)
  simp only [bare]
  go_wp2_with fail
  refine (HCL.out _ (below_drewN (Below.refl _ _) 1)).mono ?_
  rintro e w2 ⟨v2, rfl, ho2, hb2⟩
  obtain ⟨p2, c2, hv2⟩ := (Row.of_owns ho2).shape
  subst hv2
  have hsz2 : w.heap.size ≤ w2.heap.size := hb2.size
  have hb20 := (below_drewN (Below.refl w.heap.size w) 1).trans (show Below w.heap.size w.drew w2 from hb2)
  go_wp2_with fail
  refine hK.out _ _ (grown_of_below hb2) ?_
  clear hK K
  refine hC.out _ _ _ _ (by first | rfl | go_simp) (fun K hK => ?_)
  simp only [bare]
  go_wp2_with fail
  refine (HPL.out _ hb20).mono ?_
  rintro e w2b ⟨rfl, rfl⟩
  go_wp2_with fail
  refine hK.out _ _ (grown_of_below hb2) ?_
  clear hK K
  refine hC.out _ _ _ _ (by first | rfl | go_simp) (fun K hK => ?_)
  simp only [bare]
  go_wp2_with fail
  refine hK.out _ _ (grown_trans (grown_of_below hb2) (World.grownBy_alloc _ _ _)) ?_
  clear hK K
  refine hC.out _ _ _ _ (by first | rfl | go_simp) (fun K hK => ?_)
  simp only [bare]
  have hEL := el_intD
  go_wp2_with (at_builtin; refine app_law rfl _ _ _ rfl hEL (ho2.alloc _) rfl [.int .i64 (nx : Nat)] rfl rfl (cells_new w2b #[_] _) (by simp [Value.oneCell']) (by omega) (by simp; omega) ?_; intro v3 w3 hown3 hgr3)
  have hb3 : Below w.drew.heap.size w.drew w3 := (hb2.alloc hb2.size _).grown hgr3 (by simp; omega) (fun j hj => (ho2.lt j hj).1)
  refine hK.out _ _ (grown_of_below hb3) ?_
  clear hK K
  refine hC.out _ _ _ _ (by first | rfl | go_simp) (fun K hK => ?_)
  simp only [bare]
  go_wp2_with fail
  refine (HREC.out w3 v3 ((below_drewN (Below.refl w.heap.size w) 1).trans (show Below w.heap.size w.drew w3 from hb3)) hown3).mono ?_
  rintro e w4 ⟨rfl, hcw⟩
  go_wp2_with fail
  refine hK.out _ _ (grown_trans (grown_of_below hb3) hcw.gr) ?_
  clear hK K
  refine hE.out _ _ ?_
  clear hH hC hN hE W
  show JS _ _
  refine hS _ _ ?_
  refine ⟨hpp.out, ?_, Fr.of _ rfl ⟨rfl, rfl, rfl, rfl, rfl, rfl, rfl, rfl, rfl, rfl, rfl, rfl, trivial⟩⟩
  rw [HS.out]
  exact ⟨hcw.cx, grown_trans HW.out.gr (grown_trans (grown_of_below ((below_drewN (Below.refl w.heap.size w) 1).trans (show Below w.heap.size w.drew w3 from hb3))) hcw.gr)⟩

end Go.Proofs.Ytkdimgghljklmaa
/-
  Lots: who gets which place, the reference's DrawOf, from end to end. Conditions: right teams, weights and top.
-/
set_option linter.unusedVariables false
namespace Go.Proofs.Ytkdimgghljklmaa
open Go.RowKit Go.Bw
/-- Nothing is wrong so far. -/
structure DQ (ts : List ByteArray) (ws lots : List Int) (top : Int) : Prop where
  e : topE ts ws top = 0
  l : (lots.length : Int) = top
theorem allL_len (nt : Nat) (H : List Nat) : (allL nt H).length ≤ H.length + nt := by
  unfold allL restL
  rw [List.length_append]
  have := List.length_filter_le (fun i => !H.contains i) (List.range nt)
  simp only [List.length_range] at this
  omega
theorem allL_lt {nt : Nat} {H : List Nat} (hh : Have nt H) : ∀ x ∈ allL nt H, x < nt := by
  intro x hx
  unfold allL restL at hx
  rcases List.mem_append.1 hx with hx | hx
  · exact hh.lt x hx
  · have := (List.mem_filter.1 hx).1
    simpa using this
theorem natsL_at (l : List Nat) (k : Int) (h0 : 0 ≤ k) (h1 : k < l.length) : geti (natsL l) k = ((l[k.toNat]'(by omega) : Nat) : Int) := by
  simp [geti, natsL, show k.toNat < l.length by omega]
theorem namesL_take (ts : List ByteArray) (l : List Nat) (k : Int) (h0 : 0 ≤ k) (h1 : k < l.length) : l.take (k + 1).toNat = l.take k.toNat ++ [l[k.toNat]'(by omega)] := by
  rw [show (k + 1).toNat = k.toNat + 1 by omega, List.take_succ_eq_append_getElem (by omega)]
set_option maxRecDepth 100000 in
set_option maxHeartbeats 1000000 in
theorem do2b (w0 : World) (vt vw vl : Value) (ts : List ByteArray) (ws lots : List Int) (top : Int) (h : DH w0 vt vw vl ts ws lots) (d : DR ts ws lots) (hEL : DQ ts ws lots top) (k : Int) : T3 Try.prog (fun a w => ∃ (v13 : Value), ((0 ≤ k ∧ k < lots.length) ∧ NNL lots k) ∧ (Dn w0 ts v13 (.slice none 0 0) (HT ts ws lots k) ([]) w) ∧ Fr 98 [(0, vt), (1, vw), (10, .int .i64 ws.sum), (13, v13), (35, vl), (36, .int .i64 lots.length), (37, .int .i64 k)] a) (sel [1, 1, 1, 1, 1, 0, 1, 4, 4, 1, 1, 0] doR) (fun a w => ∃ (v13 : Value), ((0 ≤ k ∧ k < lots.length) ∧ NNL lots (k + 1)) ∧ (Dn w0 ts v13 (.slice none 0 0) (HT ts ws lots (k + 1)) ([]) w) ∧ Fr 98 [(0, vt), (1, vw), (10, .int .i64 ws.sum), (13, v13), (35, vl), (36, .int .i64 lots.length), (37, .int .i64 k)] a) No 9 (fun a w => ∃ v8 : Value, Fr 98 [(8, v8), (9, .int .i64 (drawE ts ws lots top))] a ∧ w.ownsRow w0.heap.size 9 1 v8 (drawL ts ws lots top).length (cellsOf encSt (drawL ts ws lots top)) ∧ Below w0.heap.size w0 w) := by
  refine T3.block (id' := 3) (c := (sel [1, 1, 1, 1, 1, 0, 1, 4, 4, 1, 1, 0, 4] doR)) (by decide) ?_
  refine T3.seq (s := (sel [1, 1, 1, 1, 1, 0, 1, 4, 4, 1, 1, 0, 4, 0] doR)) (c := (sel [1, 1, 1, 1, 1, 0, 1, 4, 4, 1, 1, 0, 4, 1] doR)) (do12 w0 vt vw vl ts ws lots top h d k) (T3.ex fun v13 => ?_)
  refine T3.seq (s := (sel [1, 1, 1, 1, 1, 0, 1, 4, 4, 1, 1, 0, 4, 1, 0] doR)) (c := (sel [1, 1, 1, 1, 1, 0, 1, 4, 4, 1, 1, 0, 4, 1, 1] doR)) (S := fun a w => ((0 ≤ geti lots k) ∧ (0 ≤ k ∧ k < lots.length) ∧ NNL lots k) ∧ (Dn w0 ts v13 (.slice none 0 0) (HT ts ws lots k) ([]) w) ∧ Fr 98 [(0, vt), (1, vw), (10, .int .i64 ws.sum), (13, v13), (15, .int .i64 (geti lots k)), (35, vl), (36, .int .i64 lots.length), (37, .int .i64 k)] a) ?_ (T3.pure fun hp => ?_)
  · refine T3.test (s := (sel [1, 1, 1, 1, 1, 0, 1, 4, 4, 1, 1, 0, 4, 1, 0, 0] doR)) (x := (sel [1, 1, 1, 1, 1, 0, 1, 4, 4, 1, 1, 0, 4, 1, 0, 1, 2] doR)) (y := .skip) (C := fun q => (((0 ≤ k ∧ k < lots.length) ∧ NNL lots k) ∧ q = decide (geti lots k < 0))) (W := fun w => Dn w0 ts v13 (.slice none 0 0) (HT ts ws lots k) ([]) w) (by decide) (do13 w0 vt vw vl ts ws lots top h d k v13) ?_ (T3.skip ?_)
    · refine T3.seq (s := (sel [1, 1, 1, 1, 1, 0, 1, 4, 4, 1, 1, 0, 4, 1, 0, 1, 2, 0] doR)) (c := .ret) (t3_seqx (p := geti lots k < 0 ∧ 0 ≤ k ∧ k < lots.length) (do14 w0 vt vw vl ts ws lots top h d k v13) ?_) (T3.ret ?_)
      · rintro a w ⟨hF, ⟨hp, hq⟩, hW⟩
        exact ⟨⟨by have := hq.symm; simpa using this, hp.1⟩, hW, hF.tail⟩
      · rintro a w ⟨hp, hW, hF⟩
        have hd := de_neg hEL.e hEL.l (lotAt_some lots k hp.2.1 hp.2.2 hp.1)
        exact ⟨_, by rw [hd]; exact hF, by rw [drawL_bad (by rw [hd]; decide)]; exact World.ownsRow_nil _ _ _ _, hW.bel⟩
    · rintro a w ⟨⟨hp, hq⟩, hW, hF⟩
      exact ⟨⟨by have := hq.symm; simpa using this, hp⟩, hW, hF⟩
  obtain ⟨hn, hkk, hnn⟩ := hp
  refine T3.seq (s := (sel [1, 1, 1, 1, 1, 0, 1, 4, 4, 1, 1, 0, 4, 1, 1, 0] doR)) (c := (sel [1, 1, 1, 1, 1, 0, 1, 4, 4, 1, 1, 0, 4, 1, 1, 1] doR)) (do15 w0 vt vw vl ts ws lots top h d k v13 hn hkk) ?_
  refine T3.seq (s := (sel [1, 1, 1, 1, 1, 0, 1, 4, 4, 1, 1, 0, 4, 1, 1, 1, 0] doR)) (c := (sel [1, 1, 1, 1, 1, 0, 1, 4, 4, 1, 1, 0, 4, 1, 1, 1, 1] doR)) (do16 w0 vt vw vl ts ws lots top h d k v13 hn hkk) ?_
  refine T3.seq (s := (sel [1, 1, 1, 1, 1, 0, 1, 4, 4, 1, 1, 0, 4, 1, 1, 1, 1, 0] doR)) (c := (sel [1, 1, 1, 1, 1, 0, 1, 4, 4, 1, 1, 0, 4, 1, 1, 1, 1, 1] doR)) (doL w0 vt vw vl ts ws lots top h d k v13 hn hkk) ?_
  refine (do20 w0 vt vw vl ts ws lots top h d k v13 hn hkk).post ?_
  rintro a w ⟨v, hW, hF⟩
  exact ⟨v, ⟨hkk, hnn.succ hn⟩, hW, hF⟩

def do2I (w0 : World) (vt vw vl : Value) (ts : List ByteArray) (ws lots : List Int) (top : Int) (h : DH w0 vt vw vl ts ws lots) (d : DR ts ws lots) (hEL : DQ ts ws lots top) (k : Int) (a : Act) (w : World) : Prop := (0 ≤ k ∧ k ≤ lots.length) ∧ ∃ (v13 : Value), (NNL lots k) ∧ (Dn w0 ts v13 (.slice none 0 0) (HT ts ws lots k) ([]) w) ∧ Fr 98 [(0, vt), (1, vw), (10, .int .i64 ws.sum), (13, v13), (35, vl), (36, .int .i64 lots.length), (37, .int .i64 k)] a
set_option maxRecDepth 100000 in
set_option maxHeartbeats 1000000 in
theorem do2t (w0 : World) (vt vw vl : Value) (ts : List ByteArray) (ws lots : List Int) (top : Int) (h : DH w0 vt vw vl ts ws lots) (d : DR ts ws lots) (hEL : DQ ts ws lots top) (k : Int) : T3 Try.prog (fun a w => do2I w0 vt vw vl ts ws lots top h d hEL k a w) (sel [1, 1, 1, 1, 1, 0, 1, 4, 4, 0] doR) (fun a w => ∃ q, Fr 98 ((38, .bool q) :: [(37, .int .i64 k)]) a ∧ ((q = true ↔ k < lots.length) ∧ do2I w0 vt vw vl ts ws lots top h d hEL k a w)) No 9 (fun a w => ∃ v8 : Value, Fr 98 [(8, v8), (9, .int .i64 (drawE ts ws lots top))] a ∧ w.ownsRow w0.heap.size 9 1 v8 (drawL ts ws lots top).length (cellsOf encSt (drawL ts ws lots top)) ∧ Below w0.heap.size w0 w) := by
  refine T3.leaf ?_
  rintro Q JS JX JT K hS hK hX hE hT hR a w ⟨hk, v13, hpre, hW, ⟨fr, rfl, q0, q1, q10, q13, q35, q36, q37, _⟩⟩
  have hln := h.ln
  rw [fr_doR, show fr 0 = _ from q0, show fr 1 = _ from q1, show fr 10 = _ from q10, show fr 13 = _ from q13, show fr 35 = _ from q35, show fr 36 = _ from q36, show fr 37 = _ from q37]
  clear q0 q1 q10 q13 q35 q36 q37
  conv => arg 2; whnf
  by_cases hlt : k < lots.length
  · go_wp2_with fail
    refine Met.intro (hS _ _ ?_)
    exact ⟨true, Fr.of _ rfl ⟨rfl, rfl, trivial⟩, ⟨fun _ => hlt, fun _ => rfl⟩, hk, v13, hpre, hW, Fr.of _ rfl ⟨rfl, rfl, rfl, rfl, rfl, rfl, rfl, trivial⟩⟩
  · have hpb : decide (k < (lots.length : Int)) = false := by simp; omega
    go_wp2_with fail
    refine Met.intro (hS _ _ ?_)
    exact ⟨false, Fr.of _ rfl ⟨rfl, rfl, trivial⟩, ⟨(fun h => by cases h), fun h => absurd h (by omega)⟩, hk, v13, hpre, hW, Fr.of _ rfl ⟨rfl, rfl, rfl, rfl, rfl, rfl, rfl, trivial⟩⟩

set_option maxRecDepth 100000 in
set_option maxHeartbeats 1000000 in
theorem do2n (w0 : World) (vt vw vl : Value) (ts : List ByteArray) (ws lots : List Int) (top : Int) (h : DH w0 vt vw vl ts ws lots) (d : DR ts ws lots) (hEL : DQ ts ws lots top) (k : Int) : T3 Try.prog (fun a w => (0 ≤ k ∧ k < lots.length) ∧ ∃ (v13 : Value), (NNL lots (k + 1)) ∧ (Dn w0 ts v13 (.slice none 0 0) (HT ts ws lots (k + 1)) ([]) w) ∧ Fr 98 [(0, vt), (1, vw), (10, .int .i64 ws.sum), (13, v13), (35, vl), (36, .int .i64 lots.length), (37, .int .i64 k)] a) (sel [1, 1, 1, 1, 1, 0, 1, 4, 4, 1, 1, 1] doR) (fun a w => do2I w0 vt vw vl ts ws lots top h d hEL (k + 1) a w) No 9 (fun a w => ∃ v8 : Value, Fr 98 [(8, v8), (9, .int .i64 (drawE ts ws lots top))] a ∧ w.ownsRow w0.heap.size 9 1 v8 (drawL ts ws lots top).length (cellsOf encSt (drawL ts ws lots top)) ∧ Below w0.heap.size w0 w) := by
  refine T3.leaf ?_
  rintro Q JS JX JT K hS hK hX hE hT hR a w ⟨hk, v13, hpre, hW, ⟨fr, rfl, q0, q1, q10, q13, q35, q36, q37, _⟩⟩
  obtain ⟨hk0, hk1⟩ := hk
  have hln := h.ln
  rw [fr_doR, show fr 0 = _ from q0, show fr 1 = _ from q1, show fr 10 = _ from q10, show fr 13 = _ from q13, show fr 35 = _ from q35, show fr 36 = _ from q36, show fr 37 = _ from q37]
  clear q0 q1 q10 q13 q35 q36 q37
  conv => arg 2; whnf
  go_wp2_with fail
  refine Met.intro (hS _ _ ?_)
  exact ⟨⟨by omega, by omega⟩, v13, hpre, hW, Fr.of _ rfl ⟨rfl, rfl, rfl, rfl, rfl, rfl, rfl, trivial⟩⟩

set_option maxRecDepth 100000 in
set_option maxHeartbeats 1000000 in
theorem do2loop (w0 : World) (vt vw vl : Value) (ts : List ByteArray) (ws lots : List Int) (top : Int) (h : DH w0 vt vw vl ts ws lots) (d : DR ts ws lots) (hEL : DQ ts ws lots top) : T3 Try.prog (fun a w => do2I w0 vt vw vl ts ws lots top h d hEL 0 a w) (sel [1, 1, 1, 1, 1, 0, 1] doR) (fun a w => ∃ (v13 : Value), (NNL lots lots.length) ∧ (Dn w0 ts v13 (.slice none 0 0) (HT ts ws lots lots.length) ([]) w) ∧ Fr 98 [(0, vt), (13, v13)] a) No 9 (fun a w => ∃ v8 : Value, Fr 98 [(8, v8), (9, .int .i64 (drawE ts ws lots top))] a ∧ w.ownsRow w0.heap.size 9 1 v8 (drawL ts ws lots top).length (cellsOf encSt (drawL ts ws lots top)) ∧ Below w0.heap.size w0 w) := by
  refine T3.loop (c := (sel [1, 1, 1, 1, 1, 0, 1, 4, 4] doR)) (fun ng_ a w => ∃ k : Int, (ng_ : Int) = lots.length - k ∧ do2I w0 vt vw vl ts ws lots top h d hEL k a w) (fun a w h => ⟨(lots.length : Int).toNat, 0, by have := h.1.2; omega, h⟩) (fun ng_ => T3.ex fun k => T3.pure fun hng_ => ?_)
  refine T3.seq (s := (sel [1, 1, 1, 1, 1, 0, 1, 4, 4, 0] doR)) (c := (sel [1, 1, 1, 1, 1, 0, 1, 4, 4, 1] doR)) ((do2t w0 vt vw vl ts ws lots top h d hEL k).noX) ?_
  refine T3.seq (s := (sel [1, 1, 1, 1, 1, 0, 1, 4, 4, 1, 0] doR)) (c := (sel [1, 1, 1, 1, 1, 0, 1, 4, 4, 1, 1] doR)) (S := fun a w => (0 ≤ k ∧ k < lots.length) ∧ ∃ (v13 : Value), (NNL lots k) ∧ (Dn w0 ts v13 (.slice none 0 0) (HT ts ws lots k) ([]) w) ∧ Fr 98 [(0, vt), (1, vw), (10, .int .i64 ws.sum), (13, v13), (35, vl), (36, .int .i64 lots.length), (37, .int .i64 k)] a) ?_ (T3.seq (s := (sel [1, 1, 1, 1, 1, 0, 1, 4, 4, 1, 1, 0] doR)) (c := (sel [1, 1, 1, 1, 1, 0, 1, 4, 4, 1, 1, 1] doR)) (S := fun a w => (0 ≤ k ∧ k < lots.length) ∧ ∃ (v13 : Value), (NNL lots (k + 1)) ∧ (Dn w0 ts v13 (.slice none 0 0) (HT ts ws lots (k + 1)) ([]) w) ∧ Fr 98 [(0, vt), (1, vw), (10, .int .i64 ws.sum), (13, v13), (35, vl), (36, .int .i64 lots.length), (37, .int .i64 k)] a) (T3.noX (T3.mono (R' := fun a w => (0 ≤ k ∧ k < lots.length) ∧ ∃ (v13 : Value), (NNL lots k) ∧ (Dn w0 ts v13 (.slice none 0 0) (HT ts ws lots k) ([]) w) ∧ Fr 98 [(0, vt), (1, vw), (10, .int .i64 ws.sum), (13, v13), (35, vl), (36, .int .i64 lots.length), (37, .int .i64 k)] a) (S' := fun a w => (0 ≤ k ∧ k < lots.length) ∧ ∃ (v13 : Value), (NNL lots (k + 1)) ∧ (Dn w0 ts v13 (.slice none 0 0) (HT ts ws lots (k + 1)) ([]) w) ∧ Fr 98 [(0, vt), (1, vw), (10, .int .i64 ws.sum), (13, v13), (35, vl), (36, .int .i64 lots.length), (37, .int .i64 k)] a) (do2b w0 vt vw vl ts ws lots top h d hEL k) (fun a w ⟨hk, v13, hp, hI⟩ => ⟨v13, ⟨hk, hp⟩, hI⟩) (fun a w ⟨v13, ⟨hk, hp⟩, hI⟩ => ⟨hk, v13, hp, hI⟩) (fun _ _ q => q) (fun _ _ q => q))) ?_)
  · refine T3.cond (o := .tmp 38) (x := .skip) (y := .exit 2) (fun a w => k < lots.length ∧ do2I w0 vt vw vl ts ws lots top h d hEL k a w) (fun a w => ¬ k < lots.length ∧ do2I w0 vt vw vl ts ws lots top h d hEL k a w) ?_ (T3.skip ?_) (T3.exit ?_)
    · rintro a w ⟨q, hF, hq, hI⟩
      have he := hF.eval 38 (by decide) (v := .bool q) (by simp)
      cases q
      · exact .inr ⟨he, (fun h => by have := hq.2 h; cases this), hI⟩
      · exact .inl ⟨he, hq.1 rfl, hI⟩
    · rintro a w ⟨hlt, hk, hI⟩
      exact ⟨⟨hk.1, hlt⟩, hI⟩
    · rintro a w ⟨hlt, hk, hI⟩
      obtain rfl : k = lots.length := by omega
      obtain ⟨v13, hnn, hW, hF⟩ := hI
      exact ⟨v13, hnn, hW, hF.sub (by simp)⟩
  · intro a w hx
    have hk := hx.1
    exact (((do2n w0 vt vw vl ts ws lots top h d hEL k).noX).post (fun a w q => ⟨ng_ - 1, by omega, k + 1, by omega, q⟩)) a w hx
set_option maxRecDepth 100000 in
set_option maxHeartbeats 1000000 in
theorem do22 (w0 : World) (vt vw vl : Value) (ts : List ByteArray) (ws lots : List Int) (top : Int) (h : DH w0 vt vw vl ts ws lots) (d : DR ts ws lots) : T3 Try.prog (fun a w => ∃ (v13 : Value), (Dn w0 ts v13 (.slice none 0 0) (HT ts ws lots lots.length) ([]) w) ∧ Fr 98 [(0, vt), (13, v13)] a) (sel [1, 1, 1, 1, 1, 1, 0, 0] doR) (fun a w => (0 ≤ (0 : Int) ∧ (0 : Int) ≤ ts.length) ∧ ∃ (v13 : Value), (Dn w0 ts v13 (.slice none 0 0) (HT ts ws lots lots.length ++ restTo (HT ts ws lots lots.length) (0 : Int).toNat) ([]) w) ∧ Fr 98 [(0, vt), (13, v13), (69, vt), (70, .int .i64 ts.length), (71, .int .i64 0)] a) No 9 (fun a w => ∃ v8 : Value, Fr 98 [(8, v8), (9, .int .i64 (drawE ts ws lots top))] a ∧ w.ownsRow w0.heap.size 9 1 v8 (drawL ts ws lots top).length (cellsOf encSt (drawL ts ws lots top)) ∧ Below w0.heap.size w0 w) := by
  refine T3.leaf ?_
  rintro Q JS JX JT K hS hK hX hE hT hR a w ⟨v13, hW, ⟨fr, rfl, q0, q13, _⟩⟩
  obtain ⟨p1, c1, hv1⟩ := h.h.t.shape
  subst hv1
  have h0 : HT ts ws lots lots.length ++ restTo (HT ts ws lots lots.length) (0 : Int).toNat = HT ts ws lots lots.length := by simp [restTo]
  have H0 := Lib.hid h0
  clear h0
  rw [fr_doR, show fr 0 = _ from q0, show fr 13 = _ from q13]
  clear q0 q13
  conv => arg 2; whnf
  go_wp2_with fail
  refine Met.intro (hS _ _ ?_)
  exact ⟨⟨by omega, by omega⟩, _, (by rw [H0.out]; exact hW), Fr.of _ rfl ⟨rfl, rfl, rfl, rfl, rfl, trivial⟩⟩

set_option maxRecDepth 100000 in
set_option maxHeartbeats 1000000 in
theorem do24 (w0 : World) (vt vw vl : Value) (ts : List ByteArray) (ws lots : List Int) (top : Int) (h : DH w0 vt vw vl ts ws lots) (d : DR ts ws lots) (k : Int) : T3 Try.prog (fun a w => ∃ (v13 : Value), (0 ≤ k ∧ k < ts.length) ∧ (Dn w0 ts v13 (.slice none 0 0) (HT ts ws lots lots.length ++ restTo (HT ts ws lots lots.length) (k : Int).toNat) ([]) w) ∧ Fr 98 [(0, vt), (13, v13), (69, vt), (70, .int .i64 ts.length), (71, .int .i64 k)] a) (sel [1, 1, 1, 1, 1, 1, 0, 1, 4, 4, 1, 1, 0, 4, 0] doR) (fun a w => ∃ (v13 : Value), (0 ≤ k ∧ k < ts.length) ∧ (Dn w0 ts v13 (.slice none 0 0) (HT ts ws lots lots.length ++ restTo (HT ts ws lots lots.length) (k : Int).toNat) ([]) w) ∧ Fr 98 [(0, vt), (13, v13), (17, .int .i64 k), (69, vt), (70, .int .i64 ts.length), (71, .int .i64 k)] a) No 9 (fun a w => ∃ v8 : Value, Fr 98 [(8, v8), (9, .int .i64 (drawE ts ws lots top))] a ∧ w.ownsRow w0.heap.size 9 1 v8 (drawL ts ws lots top).length (cellsOf encSt (drawL ts ws lots top)) ∧ Below w0.heap.size w0 w) := by
  refine T3.leaf ?_
  rintro Q JS JX JT K hS hK hX hE hT hR a w ⟨v13, hpre, hW, ⟨fr, rfl, q0, q13, q69, q70, q71, _⟩⟩
  have hpp := Lib.hid hpre
  obtain ⟨p1, c1, hv1⟩ := h.h.t.shape
  subst hv1
  rw [fr_doR, show fr 0 = _ from q0, show fr 13 = _ from q13, show fr 69 = _ from q69, show fr 70 = _ from q70, show fr 71 = _ from q71]
  clear q0 q13 q69 q70 q71
  conv => arg 2; whnf
  go_wp2_with fail
  refine Met.intro (hS _ _ ?_)
  exact ⟨v13, hpp.out, hW, Fr.of _ rfl ⟨rfl, rfl, rfl, rfl, rfl, rfl, trivial⟩⟩

set_option maxRecDepth 100000 in
set_option maxHeartbeats 1000000 in
theorem do25 (w0 : World) (vt vw vl : Value) (ts : List ByteArray) (ws lots : List Int) (top : Int) (h : DH w0 vt vw vl ts ws lots) (d : DR ts ws lots) (k : Int) (v13 : Value) : T3 Try.prog (fun a w => (0 ≤ k ∧ k < ts.length) ∧ (Dn w0 ts v13 (.slice none 0 0) (HT ts ws lots lots.length ++ restTo (HT ts ws lots lots.length) (k : Int).toNat) ([]) w) ∧ Fr 98 [(0, vt), (13, v13), (17, .int .i64 k), (69, vt), (70, .int .i64 ts.length), (71, .int .i64 k)] a) (sel [1, 1, 1, 1, 1, 1, 0, 1, 4, 4, 1, 1, 0, 4, 1, 0] doR) (fun a w => ∃ q, Fr 98 ((77, .bool q) :: [(0, vt), (13, v13), (17, .int .i64 k), (69, vt), (70, .int .i64 ts.length), (71, .int .i64 k)]) a ∧ (((0 ≤ k ∧ k < ts.length) ∧ q = !(HT ts ws lots lots.length).contains k.toNat) ∧ Dn w0 ts v13 (.slice none 0 0) (HT ts ws lots lots.length ++ restTo (HT ts ws lots lots.length) (k : Int).toNat) ([]) w)) No 9 (fun a w => ∃ v8 : Value, Fr 98 [(8, v8), (9, .int .i64 (drawE ts ws lots top))] a ∧ w.ownsRow w0.heap.size 9 1 v8 (drawL ts ws lots top).length (cellsOf encSt (drawL ts ws lots top)) ∧ Below w0.heap.size w0 w) := by
  refine T3.leaf ?_
  rintro Q JS JX JT K hS hK hX hE hT hR a w ⟨hpre, hW, ⟨fr, rfl, q0, q13, q17, q69, q70, q71, _⟩⟩
  have hpp := Lib.hid hpre
  obtain ⟨hk0, hk1⟩ := hpre
  have hc := contains_l v13 (HT ts ws lots lots.length ++ restTo (HT ts ws lots lots.length) k.toNat).length (natsL (HT ts ws lots lots.length ++ restTo (HT ts ws lots lots.length) k.toNat)) k w0.heap.size w (Row.of_owns hW.hv)
  rw [natsL_contains _ _ hk0, grow_contains] at hc
  have HP := Lib.hid hc
  have HW := Lib.hid hW
  obtain ⟨p9, c9, hv9⟩ := (Row.of_owns hW.hv).shape
  subst hv9
  obtain ⟨p1, c1, hv1⟩ := h.h.t.shape
  subst hv1
  clear hW hc
  generalize (HT ts ws lots lots.length).contains k.toNat = q at *
  generalize (HT ts ws lots lots.length ++ restTo (HT ts ws lots lots.length) k.toNat).length = gl at *
  rw [fr_doR, show fr 0 = _ from q0, show fr 13 = _ from q13, show fr 17 = _ from q17, show fr 69 = _ from q69, show fr 70 = _ from q70, show fr 71 = _ from q71]
  clear q0 q13 q17 q69 q70 q71
  conv => arg 2; whnf
  go_wp2_with fail
  refine HP.out.mono ?_
  rintro e w1 ⟨rfl, rfl⟩
  go_wp2_with fail
  have hpre := hpp.out
  refine Met.intro (hS _ _ ?_)
  exact ⟨_, Fr.of _ rfl ⟨rfl, rfl, rfl, rfl, rfl, rfl, rfl, trivial⟩, ⟨hpre, rfl⟩, HW.out⟩

set_option maxRecDepth 100000 in
set_option maxHeartbeats 1000000 in
theorem do26 (w0 : World) (vt vw vl : Value) (ts : List ByteArray) (ws lots : List Int) (top : Int) (h : DH w0 vt vw vl ts ws lots) (d : DR ts ws lots) (k : Int) (v13 : Value) : T3 Try.prog (fun a w => Fr 98 ((77, .bool true) :: [(0, vt), (13, v13), (17, .int .i64 k), (69, vt), (70, .int .i64 ts.length), (71, .int .i64 k)]) a ∧ ((0 ≤ k ∧ k < ts.length) ∧ true = !(HT ts ws lots lots.length).contains k.toNat) ∧ Dn w0 ts v13 (.slice none 0 0) (HT ts ws lots lots.length ++ restTo (HT ts ws lots lots.length) (k : Int).toNat) ([]) w) (sel [1, 1, 1, 1, 1, 1, 0, 1, 4, 4, 1, 1, 0, 4, 1, 1, 2] doR) (fun a w => ∃ (v13 : Value), (0 ≤ k ∧ k < ts.length) ∧ (Dn w0 ts v13 (.slice none 0 0) (HT ts ws lots lots.length ++ restTo (HT ts ws lots lots.length) ((k + 1) : Int).toNat) ([]) w) ∧ Fr 98 [(0, vt), (13, v13), (69, vt), (70, .int .i64 ts.length), (71, .int .i64 k)] a) No 9 (fun a w => ∃ v8 : Value, Fr 98 [(8, v8), (9, .int .i64 (drawE ts ws lots top))] a ∧ w.ownsRow w0.heap.size 9 1 v8 (drawL ts ws lots top).length (cellsOf encSt (drawL ts ws lots top)) ∧ Below w0.heap.size w0 w) := by
  refine T3.leaf ?_
  rintro Q JS JX JT K hS hK hX hE hT hR a w ⟨⟨fr, rfl, q77, q0, q13, q17, q69, q70, q71, _⟩, ⟨hpre, hq⟩, hW⟩
  obtain ⟨hk0, hk1⟩ := hpre
  have hcn : (HT ts ws lots lots.length).contains k.toNat = false := by simpa using hq.symm
  have Hs := Lib.hid (show restTo (HT ts ws lots lots.length) (k + 1).toNat = restTo (HT ts ws lots lots.length) k.toNat ++ [k.toNat] by rw [show (k + 1).toNat = k.toNat + 1 by omega, restTo_succ, hcn]; rfl)
  have hln := h.ln
  have htn := h.h.tn
  have hr := HT_len ts ws lots lots.length (by omega) (by omega)
  have hrl : (restTo (HT ts ws lots lots.length) k.toNat).length ≤ k.toNat := by unfold restTo; exact Nat.le_trans (List.length_filter_le _ _) (by simp)
  have hgl : (HT ts ws lots lots.length ++ restTo (HT ts ws lots lots.length) k.toNat).length ≤ 2000 := by rw [List.length_append]; omega
  have hkk : ((k.toNat : Nat) : Int) = k := by omega
  have HA := Lib.hid (fun w' v' => Dn.appH (w' := w') (v' := v') (j := k.toNat) (hW.alloc (.cells #[.int .i64 k] 3)))
  rw [hkk] at HA
  obtain ⟨p9, c9, hv9⟩ := (Row.of_owns hW.hv).shape
  subst hv9
  obtain ⟨p1, c1, hv1⟩ := h.h.t.shape
  subst hv1
  have hE := el_intD
  have hbs := hW.bel.size
  clear hq hcn hkk
  generalize hHK : HT ts ws lots lots.length ++ restTo (HT ts ws lots lots.length) k.toNat = GG at *
  have HH2 := Lib.hid hHK
  clear hHK hr hrl
  rw [fr_doR, show fr 77 = _ from q77, show fr 0 = _ from q0, show fr 13 = _ from q13, show fr 17 = _ from q17, show fr 69 = _ from q69, show fr 70 = _ from q70, show fr 71 = _ from q71]
  clear q77 q0 q13 q17 q69 q70 q71
  conv => arg 2; whnf
  go_wp2_with (at_builtin; refine app_law rfl _ _ _ rfl hE (hW.hv.alloc _) rfl [.int .i64 k] rfl rfl (cells_new w #[_] _) (by simp [Value.oneCell']) (by omega) (by simp; omega) ?_; intro v' w3 hown3 hgr)
  refine Met.intro (hS _ _ ?_)
  have := HA.out w3 v' hown3 hgr
  refine ⟨v', ⟨hk0, hk1⟩, ?_, Fr.of _ rfl ⟨rfl, rfl, rfl, rfl, rfl, trivial⟩⟩
  rw [Hs.out, ← List.append_assoc, HH2.out]
  exact this

set_option maxRecDepth 100000 in
set_option maxHeartbeats 1000000 in
theorem do4b (w0 : World) (vt vw vl : Value) (ts : List ByteArray) (ws lots : List Int) (top : Int) (h : DH w0 vt vw vl ts ws lots) (d : DR ts ws lots) (k : Int) : T3 Try.prog (fun a w => ∃ (v13 : Value), (0 ≤ k ∧ k < ts.length) ∧ (Dn w0 ts v13 (.slice none 0 0) (HT ts ws lots lots.length ++ restTo (HT ts ws lots lots.length) (k : Int).toNat) ([]) w) ∧ Fr 98 [(0, vt), (13, v13), (69, vt), (70, .int .i64 ts.length), (71, .int .i64 k)] a) (sel [1, 1, 1, 1, 1, 1, 0, 1, 4, 4, 1, 1, 0] doR) (fun a w => ∃ (v13 : Value), (0 ≤ k ∧ k < ts.length) ∧ (Dn w0 ts v13 (.slice none 0 0) (HT ts ws lots lots.length ++ restTo (HT ts ws lots lots.length) ((k + 1) : Int).toNat) ([]) w) ∧ Fr 98 [(0, vt), (13, v13), (69, vt), (70, .int .i64 ts.length), (71, .int .i64 k)] a) No 9 (fun a w => ∃ v8 : Value, Fr 98 [(8, v8), (9, .int .i64 (drawE ts ws lots top))] a ∧ w.ownsRow w0.heap.size 9 1 v8 (drawL ts ws lots top).length (cellsOf encSt (drawL ts ws lots top)) ∧ Below w0.heap.size w0 w) := by
  refine T3.block (id' := 7) (c := (sel [1, 1, 1, 1, 1, 1, 0, 1, 4, 4, 1, 1, 0, 4] doR)) (by decide) ?_
  refine T3.seq (s := (sel [1, 1, 1, 1, 1, 1, 0, 1, 4, 4, 1, 1, 0, 4, 0] doR)) (c := (sel [1, 1, 1, 1, 1, 1, 0, 1, 4, 4, 1, 1, 0, 4, 1] doR)) (do24 w0 vt vw vl ts ws lots top h d k) (T3.ex fun v13 => ?_)
  refine T3.test (s := (sel [1, 1, 1, 1, 1, 1, 0, 1, 4, 4, 1, 1, 0, 4, 1, 0] doR)) (x := (sel [1, 1, 1, 1, 1, 1, 0, 1, 4, 4, 1, 1, 0, 4, 1, 1, 2] doR)) (y := .skip) (C := fun q => ((0 ≤ k ∧ k < ts.length) ∧ q = !(HT ts ws lots lots.length).contains k.toNat)) (W := fun w => Dn w0 ts v13 (.slice none 0 0) (HT ts ws lots lots.length ++ restTo (HT ts ws lots lots.length) (k : Int).toNat) ([]) w) (by decide) (do25 w0 vt vw vl ts ws lots top h d k v13) (do26 w0 vt vw vl ts ws lots top h d k v13) (T3.skip ?_)
  rintro a w ⟨⟨hp, hq⟩, hW, hF⟩
  refine ⟨v13, hp, ?_, hF.sub (by simp)⟩
  have hcn : (HT ts ws lots lots.length).contains k.toNat = true := by simpa using hq.symm
  rw [show (k + 1).toNat = k.toNat + 1 by omega, restTo_succ, hcn]
  simpa using hW

def do4I (w0 : World) (vt vw vl : Value) (ts : List ByteArray) (ws lots : List Int) (top : Int) (h : DH w0 vt vw vl ts ws lots) (d : DR ts ws lots) (k : Int) (a : Act) (w : World) : Prop := (0 ≤ k ∧ k ≤ ts.length) ∧ ∃ (v13 : Value), (Dn w0 ts v13 (.slice none 0 0) (HT ts ws lots lots.length ++ restTo (HT ts ws lots lots.length) (k : Int).toNat) ([]) w) ∧ Fr 98 [(0, vt), (13, v13), (69, vt), (70, .int .i64 ts.length), (71, .int .i64 k)] a
set_option maxRecDepth 100000 in
set_option maxHeartbeats 1000000 in
theorem do4t (w0 : World) (vt vw vl : Value) (ts : List ByteArray) (ws lots : List Int) (top : Int) (h : DH w0 vt vw vl ts ws lots) (d : DR ts ws lots) (k : Int) : T3 Try.prog (fun a w => do4I w0 vt vw vl ts ws lots top h d k a w) (sel [1, 1, 1, 1, 1, 1, 0, 1, 4, 4, 0] doR) (fun a w => ∃ q, Fr 98 ((72, .bool q) :: [(71, .int .i64 k)]) a ∧ ((q = true ↔ k < ts.length) ∧ do4I w0 vt vw vl ts ws lots top h d k a w)) No 9 (fun a w => ∃ v8 : Value, Fr 98 [(8, v8), (9, .int .i64 (drawE ts ws lots top))] a ∧ w.ownsRow w0.heap.size 9 1 v8 (drawL ts ws lots top).length (cellsOf encSt (drawL ts ws lots top)) ∧ Below w0.heap.size w0 w) := by
  refine T3.leaf ?_
  rintro Q JS JX JT K hS hK hX hE hT hR a w ⟨hk, v13, hW, ⟨fr, rfl, q0, q13, q69, q70, q71, _⟩⟩
  have htn := h.h.tn
  rw [fr_doR, show fr 0 = _ from q0, show fr 13 = _ from q13, show fr 69 = _ from q69, show fr 70 = _ from q70, show fr 71 = _ from q71]
  clear q0 q13 q69 q70 q71
  conv => arg 2; whnf
  by_cases hlt : k < ts.length
  · go_wp2_with fail
    refine Met.intro (hS _ _ ?_)
    exact ⟨true, Fr.of _ rfl ⟨rfl, rfl, trivial⟩, ⟨fun _ => hlt, fun _ => rfl⟩, hk, v13, hW, Fr.of _ rfl ⟨rfl, rfl, rfl, rfl, rfl, trivial⟩⟩
  · have hpb : decide (k < (ts.length : Int)) = false := by simp; omega
    go_wp2_with fail
    refine Met.intro (hS _ _ ?_)
    exact ⟨false, Fr.of _ rfl ⟨rfl, rfl, trivial⟩, ⟨(fun h => by cases h), fun h => absurd h (by omega)⟩, hk, v13, hW, Fr.of _ rfl ⟨rfl, rfl, rfl, rfl, rfl, trivial⟩⟩

set_option maxRecDepth 100000 in
set_option maxHeartbeats 1000000 in
theorem do4n (w0 : World) (vt vw vl : Value) (ts : List ByteArray) (ws lots : List Int) (top : Int) (h : DH w0 vt vw vl ts ws lots) (d : DR ts ws lots) (k : Int) : T3 Try.prog (fun a w => (0 ≤ k ∧ k < ts.length) ∧ ∃ (v13 : Value), (Dn w0 ts v13 (.slice none 0 0) (HT ts ws lots lots.length ++ restTo (HT ts ws lots lots.length) ((k + 1) : Int).toNat) ([]) w) ∧ Fr 98 [(0, vt), (13, v13), (69, vt), (70, .int .i64 ts.length), (71, .int .i64 k)] a) (sel [1, 1, 1, 1, 1, 1, 0, 1, 4, 4, 1, 1, 1] doR) (fun a w => do4I w0 vt vw vl ts ws lots top h d (k + 1) a w) No 9 (fun a w => ∃ v8 : Value, Fr 98 [(8, v8), (9, .int .i64 (drawE ts ws lots top))] a ∧ w.ownsRow w0.heap.size 9 1 v8 (drawL ts ws lots top).length (cellsOf encSt (drawL ts ws lots top)) ∧ Below w0.heap.size w0 w) := by
  refine T3.leaf ?_
  rintro Q JS JX JT K hS hK hX hE hT hR a w ⟨hk, v13, hW, ⟨fr, rfl, q0, q13, q69, q70, q71, _⟩⟩
  obtain ⟨hk0, hk1⟩ := hk
  have htn := h.h.tn
  rw [fr_doR, show fr 0 = _ from q0, show fr 13 = _ from q13, show fr 69 = _ from q69, show fr 70 = _ from q70, show fr 71 = _ from q71]
  clear q0 q13 q69 q70 q71
  conv => arg 2; whnf
  go_wp2_with fail
  refine Met.intro (hS _ _ ?_)
  exact ⟨⟨by omega, by omega⟩, v13, hW, Fr.of _ rfl ⟨rfl, rfl, rfl, rfl, rfl, trivial⟩⟩

set_option maxRecDepth 100000 in
set_option maxHeartbeats 1000000 in
theorem do4loop (w0 : World) (vt vw vl : Value) (ts : List ByteArray) (ws lots : List Int) (top : Int) (h : DH w0 vt vw vl ts ws lots) (d : DR ts ws lots) : T3 Try.prog (fun a w => do4I w0 vt vw vl ts ws lots top h d 0 a w) (sel [1, 1, 1, 1, 1, 1, 0, 1] doR) (fun a w => ∃ (v13 : Value), (Dn w0 ts v13 (.slice none 0 0) (allL ts.length (HT ts ws lots lots.length)) ([]) w) ∧ Fr 98 [(0, vt), (13, v13)] a) No 9 (fun a w => ∃ v8 : Value, Fr 98 [(8, v8), (9, .int .i64 (drawE ts ws lots top))] a ∧ w.ownsRow w0.heap.size 9 1 v8 (drawL ts ws lots top).length (cellsOf encSt (drawL ts ws lots top)) ∧ Below w0.heap.size w0 w) := by
  refine T3.loop (c := (sel [1, 1, 1, 1, 1, 1, 0, 1, 4, 4] doR)) (fun ng_ a w => ∃ k : Int, (ng_ : Int) = ts.length - k ∧ do4I w0 vt vw vl ts ws lots top h d k a w) (fun a w h => ⟨(ts.length : Int).toNat, 0, by have := h.1.2; omega, h⟩) (fun ng_ => T3.ex fun k => T3.pure fun hng_ => ?_)
  refine T3.seq (s := (sel [1, 1, 1, 1, 1, 1, 0, 1, 4, 4, 0] doR)) (c := (sel [1, 1, 1, 1, 1, 1, 0, 1, 4, 4, 1] doR)) ((do4t w0 vt vw vl ts ws lots top h d k).noX) ?_
  refine T3.seq (s := (sel [1, 1, 1, 1, 1, 1, 0, 1, 4, 4, 1, 0] doR)) (c := (sel [1, 1, 1, 1, 1, 1, 0, 1, 4, 4, 1, 1] doR)) (S := fun a w => (0 ≤ k ∧ k < ts.length) ∧ ∃ (v13 : Value), (Dn w0 ts v13 (.slice none 0 0) (HT ts ws lots lots.length ++ restTo (HT ts ws lots lots.length) (k : Int).toNat) ([]) w) ∧ Fr 98 [(0, vt), (13, v13), (69, vt), (70, .int .i64 ts.length), (71, .int .i64 k)] a) ?_ (T3.seq (s := (sel [1, 1, 1, 1, 1, 1, 0, 1, 4, 4, 1, 1, 0] doR)) (c := (sel [1, 1, 1, 1, 1, 1, 0, 1, 4, 4, 1, 1, 1] doR)) (S := fun a w => (0 ≤ k ∧ k < ts.length) ∧ ∃ (v13 : Value), (Dn w0 ts v13 (.slice none 0 0) (HT ts ws lots lots.length ++ restTo (HT ts ws lots lots.length) ((k + 1) : Int).toNat) ([]) w) ∧ Fr 98 [(0, vt), (13, v13), (69, vt), (70, .int .i64 ts.length), (71, .int .i64 k)] a) (T3.noX (T3.mono (R' := fun a w => (0 ≤ k ∧ k < ts.length) ∧ ∃ (v13 : Value), (Dn w0 ts v13 (.slice none 0 0) (HT ts ws lots lots.length ++ restTo (HT ts ws lots lots.length) (k : Int).toNat) ([]) w) ∧ Fr 98 [(0, vt), (13, v13), (69, vt), (70, .int .i64 ts.length), (71, .int .i64 k)] a) (S' := fun a w => (0 ≤ k ∧ k < ts.length) ∧ ∃ (v13 : Value), (Dn w0 ts v13 (.slice none 0 0) (HT ts ws lots lots.length ++ restTo (HT ts ws lots lots.length) ((k + 1) : Int).toNat) ([]) w) ∧ Fr 98 [(0, vt), (13, v13), (69, vt), (70, .int .i64 ts.length), (71, .int .i64 k)] a) (do4b w0 vt vw vl ts ws lots top h d k) (fun a w ⟨hk, v13, hI⟩ => ⟨v13, hk, hI⟩) (fun a w ⟨v13, hk, hI⟩ => ⟨hk, v13, hI⟩) (fun _ _ q => q) (fun _ _ q => q))) ?_)
  · refine T3.cond (o := .tmp 72) (x := .skip) (y := .exit 6) (fun a w => k < ts.length ∧ do4I w0 vt vw vl ts ws lots top h d k a w) (fun a w => ¬ k < ts.length ∧ do4I w0 vt vw vl ts ws lots top h d k a w) ?_ (T3.skip ?_) (T3.exit ?_)
    · rintro a w ⟨q, hF, hq, hI⟩
      have he := hF.eval 72 (by decide) (v := .bool q) (by simp)
      cases q
      · exact .inr ⟨he, (fun h => by have := hq.2 h; cases this), hI⟩
      · exact .inl ⟨he, hq.1 rfl, hI⟩
    · rintro a w ⟨hlt, hk, hI⟩
      exact ⟨⟨hk.1, hlt⟩, hI⟩
    · rintro a w ⟨hlt, hk, hI⟩
      obtain rfl : k = ts.length := by omega
      obtain ⟨v13, hW, hF⟩ := hI
      have e : (ts.length : Int).toNat = ts.length := by omega
      rw [e, restTo_all] at hW
      exact ⟨v13, hW, hF.sub (by simp)⟩
  · intro a w hx
    have hk := hx.1
    exact (((do4n w0 vt vw vl ts ws lots top h d k).noX).post (fun a w q => ⟨ng_ - 1, by omega, k + 1, by omega, q⟩)) a w hx
set_option maxRecDepth 100000 in
set_option maxHeartbeats 1000000 in
theorem do28 (w0 : World) (vt vw vl : Value) (ts : List ByteArray) (ws lots : List Int) (top : Int) (h : DH w0 vt vw vl ts ws lots) (d : DR ts ws lots) (v13 : Value) : T3 Try.prog (fun a w => (Dn w0 ts v13 (.slice none 0 0) (allL ts.length (HT ts ws lots lots.length)) ([]) w) ∧ Fr 98 [(0, vt), (13, v13)] a) (sel [1, 1, 1, 1, 1, 1, 1, 0] doR) (fun a w => (Dn w0 ts v13 (.slice none 0 0) (allL ts.length (HT ts ws lots lots.length)) ([]) w) ∧ Fr 98 [(0, vt), (13, v13), (18, .slice none 0 0)] a) No 9 (fun a w => ∃ v8 : Value, Fr 98 [(8, v8), (9, .int .i64 (drawE ts ws lots top))] a ∧ w.ownsRow w0.heap.size 9 1 v8 (drawL ts ws lots top).length (cellsOf encSt (drawL ts ws lots top)) ∧ Below w0.heap.size w0 w) := by
  refine T3.leaf ?_
  rintro Q JS JX JT K hS hK hX hE hT hR a w ⟨hW, ⟨fr, rfl, q0, q13, _⟩⟩
  obtain ⟨p1, c1, hv1⟩ := h.h.t.shape
  subst hv1
  rw [fr_doR, show fr 0 = _ from q0, show fr 13 = _ from q13]
  clear q0 q13
  conv => arg 2; whnf
  go_wp2_with fail
  refine Met.intro (hS _ _ ?_)
  exact ⟨hW, Fr.of _ rfl ⟨rfl, rfl, rfl, trivial⟩⟩

set_option maxRecDepth 100000 in
set_option maxHeartbeats 1000000 in
theorem do29 (w0 : World) (vt vw vl : Value) (ts : List ByteArray) (ws lots : List Int) (top : Int) (h : DH w0 vt vw vl ts ws lots) (d : DR ts ws lots) (v13 : Value) : T3 Try.prog (fun a w => (Dn w0 ts v13 (.slice none 0 0) (allL ts.length (HT ts ws lots lots.length)) ([]) w) ∧ Fr 98 [(0, vt), (13, v13), (18, .slice none 0 0)] a) (sel [1, 1, 1, 1, 1, 1, 1, 1, 0, 0] doR) (fun a w => (0 ≤ (0 : Int) ∧ (0 : Int) ≤ (allL ts.length (HT ts ws lots lots.length)).length) ∧ ∃ (v18 : Value), (Dn w0 ts v13 v18 (allL ts.length (HT ts ws lots lots.length)) ((allL ts.length (HT ts ws lots lots.length)).take (0 : Int).toNat) w) ∧ Fr 98 [(0, vt), (18, v18), (83, v13), (84, .int .i64 (allL ts.length (HT ts ws lots lots.length)).length), (85, .int .i64 0)] a) No 9 (fun a w => ∃ v8 : Value, Fr 98 [(8, v8), (9, .int .i64 (drawE ts ws lots top))] a ∧ w.ownsRow w0.heap.size 9 1 v8 (drawL ts ws lots top).length (cellsOf encSt (drawL ts ws lots top)) ∧ Below w0.heap.size w0 w) := by
  refine T3.leaf ?_
  rintro Q JS JX JT K hS hK hX hE hT hR a w ⟨hW, ⟨fr, rfl, q0, q13, q18, _⟩⟩
  obtain ⟨p1, c1, hv1⟩ := h.h.t.shape
  subst hv1
  have HW := Lib.hid hW
  obtain ⟨p9, c9, hv9⟩ := (Row.of_owns hW.hv).shape
  subst hv9
  clear hW
  generalize hAL : allL ts.length (HT ts ws lots lots.length) = AL at *
  clear hAL
  rw [fr_doR, show fr 0 = _ from q0, show fr 13 = _ from q13, show fr 18 = _ from q18]
  clear q0 q13 q18
  conv => arg 2; whnf
  go_wp2_with fail
  refine Met.intro (hS _ _ ?_)
  exact ⟨⟨by omega, by omega⟩, _, HW.out, Fr.of _ rfl ⟨rfl, rfl, rfl, rfl, rfl, trivial⟩⟩

set_option maxRecDepth 100000 in
set_option maxHeartbeats 1000000 in
theorem do31 (w0 : World) (vt vw vl : Value) (ts : List ByteArray) (ws lots : List Int) (top : Int) (h : DH w0 vt vw vl ts ws lots) (d : DR ts ws lots) (v13 : Value) (k : Int) : T3 Try.prog (fun a w => ∃ (v18 : Value), (0 ≤ k ∧ k < (allL ts.length (HT ts ws lots lots.length)).length) ∧ (Dn w0 ts v13 v18 (allL ts.length (HT ts ws lots lots.length)) ((allL ts.length (HT ts ws lots lots.length)).take (k : Int).toNat) w) ∧ Fr 98 [(0, vt), (18, v18), (83, v13), (84, .int .i64 (allL ts.length (HT ts ws lots lots.length)).length), (85, .int .i64 k)] a) (sel [1, 1, 1, 1, 1, 1, 1, 1, 0, 1, 4, 4, 1, 1, 0, 4, 0] doR) (fun a w => ∃ (v18 : Value), (0 ≤ k ∧ k < (allL ts.length (HT ts ws lots lots.length)).length) ∧ (Dn w0 ts v13 v18 (allL ts.length (HT ts ws lots lots.length)) ((allL ts.length (HT ts ws lots lots.length)).take (k : Int).toNat) w) ∧ Fr 98 [(0, vt), (18, v18), (20, .int .i64 (geti (natsL (allL ts.length (HT ts ws lots lots.length))) k)), (83, v13), (84, .int .i64 (allL ts.length (HT ts ws lots lots.length)).length), (85, .int .i64 k)] a) No 9 (fun a w => ∃ v8 : Value, Fr 98 [(8, v8), (9, .int .i64 (drawE ts ws lots top))] a ∧ w.ownsRow w0.heap.size 9 1 v8 (drawL ts ws lots top).length (cellsOf encSt (drawL ts ws lots top)) ∧ Below w0.heap.size w0 w) := by
  refine T3.leaf ?_
  rintro Q JS JX JT K hS hK hX hE hT hR a w ⟨v18, hpre, hW, ⟨fr, rfl, q0, q18, q83, q84, q85, _⟩⟩
  have hpp := Lib.hid hpre
  obtain ⟨hk0, hk1⟩ := hpre
  have HW := Lib.hid hW
  obtain ⟨_, hcs⟩ := (Row.of_owns hW.hv).ints
  have hnl := natsL_length (allL ts.length (HT ts ws lots lots.length))
  rcases hcs with ⟨rfl, h0⟩ | ⟨bz, off, cap, rfl, _, hbz, hnc, hcm, hcell⟩
  · omega
  have t0 := hcell k hk0 (by omega)
  obtain ⟨p1, c1, hv1⟩ := h.h.t.shape
  subst hv1
  clear hcell hnl hW
  generalize hAL : allL ts.length (HT ts ws lots lots.length) = AL at *
  clear hAL
  rw [fr_doR, show fr 0 = _ from q0, show fr 18 = _ from q18, show fr 83 = _ from q83, show fr 84 = _ from q84, show fr 85 = _ from q85]
  clear q0 q18 q83 q84 q85
  conv => arg 2; whnf
  go_wp2_with fail
  refine Met.intro (hS _ _ ?_)
  exact ⟨v18, hpp.out, HW.out, Fr.of _ rfl ⟨rfl, rfl, rfl, rfl, rfl, rfl, trivial⟩⟩

set_option maxRecDepth 100000 in
set_option maxHeartbeats 1000000 in
theorem do32 (w0 : World) (vt vw vl : Value) (ts : List ByteArray) (ws lots : List Int) (top : Int) (h : DH w0 vt vw vl ts ws lots) (d : DR ts ws lots) (v13 : Value) (k : Int) (v18 : Value) : T3 Try.prog (fun a w => (0 ≤ k ∧ k < (allL ts.length (HT ts ws lots lots.length)).length) ∧ (Dn w0 ts v13 v18 (allL ts.length (HT ts ws lots lots.length)) ((allL ts.length (HT ts ws lots lots.length)).take (k : Int).toNat) w) ∧ Fr 98 [(0, vt), (18, v18), (20, .int .i64 (geti (natsL (allL ts.length (HT ts ws lots lots.length))) k)), (83, v13), (84, .int .i64 (allL ts.length (HT ts ws lots lots.length)).length), (85, .int .i64 k)] a) (sel [1, 1, 1, 1, 1, 1, 1, 1, 0, 1, 4, 4, 1, 1, 0, 4, 1] doR) (fun a w => ∃ (v18 : Value), (0 ≤ k ∧ k < (allL ts.length (HT ts ws lots lots.length)).length) ∧ (Dn w0 ts v13 v18 (allL ts.length (HT ts ws lots lots.length)) ((allL ts.length (HT ts ws lots lots.length)).take ((k + 1) : Int).toNat) w) ∧ Fr 98 [(0, vt), (18, v18), (83, v13), (84, .int .i64 (allL ts.length (HT ts ws lots lots.length)).length), (85, .int .i64 k)] a) No 9 (fun a w => ∃ v8 : Value, Fr 98 [(8, v8), (9, .int .i64 (drawE ts ws lots top))] a ∧ w.ownsRow w0.heap.size 9 1 v8 (drawL ts ws lots top).length (cellsOf encSt (drawL ts ws lots top)) ∧ Below w0.heap.size w0 w) := by
  refine T3.leaf ?_
  rintro Q JS JX JT K hS hK hX hE hT hR a w ⟨hpre, hW, ⟨fr, rfl, q0, q18, q20, q83, q84, q85, _⟩⟩
  have hpp := Lib.hid hpre
  obtain ⟨hk0, hk1⟩ := hpre
  have hln := h.ln
  have htn := h.h.tn
  have hle := d.le
  have hHv := d.have lots.length (by omega) (by omega)
  have hr := HT_len ts ws lots lots.length (by omega) (by omega)
  have hal := allL_len ts.length (HT ts ws lots lots.length)
  have hat := natsL_at (allL ts.length (HT ts ws lots lots.length)) k hk0 hk1
  have Hs := Lib.hid (namesL_take ts (allL ts.length (HT ts ws lots lots.length)) k hk0 hk1)
  have hxl := allL_lt hHv ((allL ts.length (HT ts ws lots lots.length))[k.toNat]'(by omega)) (List.getElem_mem _)
  rw [hat] at q20
  generalize (allL ts.length (HT ts ws lots lots.length))[k.toNat]'(by omega) = x at *
  have hgl : ((allL ts.length (HT ts ws lots lots.length)).take k.toNat).length ≤ 2000 := by rw [List.length_take]; omega
  have HA := Lib.hid (fun w' v' => Dn.appN (w' := w') (v' := v') (j := x) (hW.alloc (.cells #[.string (geta ts (x : Nat))] 9)))
  obtain ⟨_, hcs⟩ := (h.h.t.below hW.bel).els encSt_length (by decide)
  rcases hcs with ⟨rfl, h0⟩ | ⟨bz, off, cap, rfl, _, hbz, hnc, hcm, hcell⟩
  · omega
  have t0 := hcell (x : Int) (by omega) (by omega) 0 (.string (geta ts (x : Nat))) rfl
  rw [Nat.mul_one, Nat.add_zero, Int.toNat_natCast] at t0
  obtain ⟨p9, c9, hv9⟩ := (Row.of_owns hW.nm).shape
  subst hv9
  obtain ⟨p8, c8, hv8⟩ := (Row.of_owns hW.hv).shape
  subst hv8
  have hE := el_strs
  have hbs := hW.bel.size
  have hxi : (x : Int) < ts.length := by omega
  clear hcell hat hHv hr hal
  generalize hAL : allL ts.length (HT ts ws lots lots.length) = AL at *
  clear hAL
  generalize geta ts (x : Nat) = nm at *
  generalize hTK : AL.take k.toNat = TK at *
  clear hTK
  rw [fr_doR, show fr 0 = _ from q0, show fr 18 = _ from q18, show fr 20 = _ from q20, show fr 83 = _ from q83, show fr 84 = _ from q84, show fr 85 = _ from q85]
  clear q0 q18 q20 q83 q84 q85
  conv => arg 2; whnf
  go_wp2_with (at_builtin; refine app_law rfl _ _ _ rfl hE (hW.nm.alloc _) rfl [.string nm] rfl rfl (cells_new w #[_] _) (by simp [Value.oneCell']) (by omega) (by simp; omega) ?_; intro v' w3 hown3 hgr)
  refine Met.intro (hS _ _ ?_)
  have := HA.out w3 v' hown3 hgr
  refine ⟨v', hpp.out, ?_, Fr.of _ rfl ⟨rfl, rfl, rfl, rfl, rfl, trivial⟩⟩
  rw [Hs.out]
  exact this

set_option maxRecDepth 100000 in
set_option maxHeartbeats 1000000 in
theorem do5b (w0 : World) (vt vw vl : Value) (ts : List ByteArray) (ws lots : List Int) (top : Int) (h : DH w0 vt vw vl ts ws lots) (d : DR ts ws lots) (v13 : Value) (k : Int) : T3 Try.prog (fun a w => ∃ (v18 : Value), (0 ≤ k ∧ k < (allL ts.length (HT ts ws lots lots.length)).length) ∧ (Dn w0 ts v13 v18 (allL ts.length (HT ts ws lots lots.length)) ((allL ts.length (HT ts ws lots lots.length)).take (k : Int).toNat) w) ∧ Fr 98 [(0, vt), (18, v18), (83, v13), (84, .int .i64 (allL ts.length (HT ts ws lots lots.length)).length), (85, .int .i64 k)] a) (sel [1, 1, 1, 1, 1, 1, 1, 1, 0, 1, 4, 4, 1, 1, 0] doR) (fun a w => ∃ (v18 : Value), (0 ≤ k ∧ k < (allL ts.length (HT ts ws lots lots.length)).length) ∧ (Dn w0 ts v13 v18 (allL ts.length (HT ts ws lots lots.length)) ((allL ts.length (HT ts ws lots lots.length)).take ((k + 1) : Int).toNat) w) ∧ Fr 98 [(0, vt), (18, v18), (83, v13), (84, .int .i64 (allL ts.length (HT ts ws lots lots.length)).length), (85, .int .i64 k)] a) No 100 (fun a w => ∃ v8 : Value, Fr 98 [(8, v8), (9, .int .i64 (drawE ts ws lots top))] a ∧ w.ownsRow w0.heap.size 9 1 v8 (drawL ts ws lots top).length (cellsOf encSt (drawL ts ws lots top)) ∧ Below w0.heap.size w0 w) := by
  refine T3.block (id' := 9) (c := (sel [1, 1, 1, 1, 1, 1, 1, 1, 0, 1, 4, 4, 1, 1, 0, 4] doR)) (by decide) ?_
  refine T3.seq (s := (sel [1, 1, 1, 1, 1, 1, 1, 1, 0, 1, 4, 4, 1, 1, 0, 4, 0] doR)) (c := (sel [1, 1, 1, 1, 1, 1, 1, 1, 0, 1, 4, 4, 1, 1, 0, 4, 1] doR)) ((do31 w0 vt vw vl ts ws lots top h d v13 k).noX) (T3.ex fun v18 => ?_)
  exact (do32 w0 vt vw vl ts ws lots top h d v13 k v18).noX

def do5I (w0 : World) (vt vw vl : Value) (ts : List ByteArray) (ws lots : List Int) (top : Int) (h : DH w0 vt vw vl ts ws lots) (d : DR ts ws lots) (v13 : Value) (k : Int) (a : Act) (w : World) : Prop := (0 ≤ k ∧ k ≤ (allL ts.length (HT ts ws lots lots.length)).length) ∧ ∃ (v18 : Value), (Dn w0 ts v13 v18 (allL ts.length (HT ts ws lots lots.length)) ((allL ts.length (HT ts ws lots lots.length)).take (k : Int).toNat) w) ∧ Fr 98 [(0, vt), (18, v18), (83, v13), (84, .int .i64 (allL ts.length (HT ts ws lots lots.length)).length), (85, .int .i64 k)] a
set_option maxRecDepth 100000 in
set_option maxHeartbeats 1000000 in
theorem do5t (w0 : World) (vt vw vl : Value) (ts : List ByteArray) (ws lots : List Int) (top : Int) (h : DH w0 vt vw vl ts ws lots) (d : DR ts ws lots) (v13 : Value) (k : Int) : T3 Try.prog (fun a w => do5I w0 vt vw vl ts ws lots top h d v13 k a w) (sel [1, 1, 1, 1, 1, 1, 1, 1, 0, 1, 4, 4, 0] doR) (fun a w => ∃ q, Fr 98 ((86, .bool q) :: [(85, .int .i64 k)]) a ∧ ((q = true ↔ k < (allL ts.length (HT ts ws lots lots.length)).length) ∧ do5I w0 vt vw vl ts ws lots top h d v13 k a w)) No 9 (fun a w => ∃ v8 : Value, Fr 98 [(8, v8), (9, .int .i64 (drawE ts ws lots top))] a ∧ w.ownsRow w0.heap.size 9 1 v8 (drawL ts ws lots top).length (cellsOf encSt (drawL ts ws lots top)) ∧ Below w0.heap.size w0 w) := by
  refine T3.leaf ?_
  rintro Q JS JX JT K hS hK hX hE hT hR a w ⟨hk, v18, hW, ⟨fr, rfl, q0, q18, q83, q84, q85, _⟩⟩
  have hal := allL_len ts.length (HT ts ws lots lots.length)
  have hln := h.ln
  have htn := h.h.tn
  have hr := HT_len ts ws lots lots.length (by omega) (by omega)
  rw [fr_doR, show fr 0 = _ from q0, show fr 18 = _ from q18, show fr 83 = _ from q83, show fr 84 = _ from q84, show fr 85 = _ from q85]
  clear q0 q18 q83 q84 q85
  conv => arg 2; whnf
  by_cases hlt : k < (allL ts.length (HT ts ws lots lots.length)).length
  · go_wp2_with fail
    refine Met.intro (hS _ _ ?_)
    exact ⟨true, Fr.of _ rfl ⟨rfl, rfl, trivial⟩, ⟨fun _ => hlt, fun _ => rfl⟩, hk, v18, hW, Fr.of _ rfl ⟨rfl, rfl, rfl, rfl, rfl, trivial⟩⟩
  · have hpb : decide (k < ((allL ts.length (HT ts ws lots lots.length)).length : Int)) = false := by simp; omega
    go_wp2_with fail
    refine Met.intro (hS _ _ ?_)
    exact ⟨false, Fr.of _ rfl ⟨rfl, rfl, trivial⟩, ⟨(fun h => by cases h), fun h => absurd h (by omega)⟩, hk, v18, hW, Fr.of _ rfl ⟨rfl, rfl, rfl, rfl, rfl, trivial⟩⟩

set_option maxRecDepth 100000 in
set_option maxHeartbeats 1000000 in
theorem do5n (w0 : World) (vt vw vl : Value) (ts : List ByteArray) (ws lots : List Int) (top : Int) (h : DH w0 vt vw vl ts ws lots) (d : DR ts ws lots) (v13 : Value) (k : Int) : T3 Try.prog (fun a w => (0 ≤ k ∧ k < (allL ts.length (HT ts ws lots lots.length)).length) ∧ ∃ (v18 : Value), (Dn w0 ts v13 v18 (allL ts.length (HT ts ws lots lots.length)) ((allL ts.length (HT ts ws lots lots.length)).take ((k + 1) : Int).toNat) w) ∧ Fr 98 [(0, vt), (18, v18), (83, v13), (84, .int .i64 (allL ts.length (HT ts ws lots lots.length)).length), (85, .int .i64 k)] a) (sel [1, 1, 1, 1, 1, 1, 1, 1, 0, 1, 4, 4, 1, 1, 1] doR) (fun a w => do5I w0 vt vw vl ts ws lots top h d v13 (k + 1) a w) No 9 (fun a w => ∃ v8 : Value, Fr 98 [(8, v8), (9, .int .i64 (drawE ts ws lots top))] a ∧ w.ownsRow w0.heap.size 9 1 v8 (drawL ts ws lots top).length (cellsOf encSt (drawL ts ws lots top)) ∧ Below w0.heap.size w0 w) := by
  refine T3.leaf ?_
  rintro Q JS JX JT K hS hK hX hE hT hR a w ⟨hk, v18, hW, ⟨fr, rfl, q0, q18, q83, q84, q85, _⟩⟩
  obtain ⟨hk0, hk1⟩ := hk
  have hal := allL_len ts.length (HT ts ws lots lots.length)
  have hln := h.ln
  have htn := h.h.tn
  have hr := HT_len ts ws lots lots.length (by omega) (by omega)
  rw [fr_doR, show fr 0 = _ from q0, show fr 18 = _ from q18, show fr 83 = _ from q83, show fr 84 = _ from q84, show fr 85 = _ from q85]
  clear q0 q18 q83 q84 q85
  conv => arg 2; whnf
  go_wp2_with fail
  refine Met.intro (hS _ _ ?_)
  exact ⟨⟨by omega, by omega⟩, v18, hW, Fr.of _ rfl ⟨rfl, rfl, rfl, rfl, rfl, trivial⟩⟩

set_option maxRecDepth 100000 in
set_option maxHeartbeats 1000000 in
theorem do5loop (w0 : World) (vt vw vl : Value) (ts : List ByteArray) (ws lots : List Int) (top : Int) (h : DH w0 vt vw vl ts ws lots) (d : DR ts ws lots) (v13 : Value) : T3 Try.prog (fun a w => do5I w0 vt vw vl ts ws lots top h d v13 0 a w) (sel [1, 1, 1, 1, 1, 1, 1, 1, 0, 1] doR) (fun a w => ∃ (v18 : Value), (Dn w0 ts v13 v18 (allL ts.length (HT ts ws lots lots.length)) (allL ts.length (HT ts ws lots lots.length)) w) ∧ Fr 98 [(18, v18)] a) No 9 (fun a w => ∃ v8 : Value, Fr 98 [(8, v8), (9, .int .i64 (drawE ts ws lots top))] a ∧ w.ownsRow w0.heap.size 9 1 v8 (drawL ts ws lots top).length (cellsOf encSt (drawL ts ws lots top)) ∧ Below w0.heap.size w0 w) := by
  refine T3.loop (c := (sel [1, 1, 1, 1, 1, 1, 1, 1, 0, 1, 4, 4] doR)) (fun ng_ a w => ∃ k : Int, (ng_ : Int) = (allL ts.length (HT ts ws lots lots.length)).length - k ∧ do5I w0 vt vw vl ts ws lots top h d v13 k a w) (fun a w h => ⟨((allL ts.length (HT ts ws lots lots.length)).length : Int).toNat, 0, by have := h.1.2; omega, h⟩) (fun ng_ => T3.ex fun k => T3.pure fun hng_ => ?_)
  refine T3.seq (s := (sel [1, 1, 1, 1, 1, 1, 1, 1, 0, 1, 4, 4, 0] doR)) (c := (sel [1, 1, 1, 1, 1, 1, 1, 1, 0, 1, 4, 4, 1] doR)) ((do5t w0 vt vw vl ts ws lots top h d v13 k).noX) ?_
  refine T3.seq (s := (sel [1, 1, 1, 1, 1, 1, 1, 1, 0, 1, 4, 4, 1, 0] doR)) (c := (sel [1, 1, 1, 1, 1, 1, 1, 1, 0, 1, 4, 4, 1, 1] doR)) (S := fun a w => (0 ≤ k ∧ k < (allL ts.length (HT ts ws lots lots.length)).length) ∧ ∃ (v18 : Value), (Dn w0 ts v13 v18 (allL ts.length (HT ts ws lots lots.length)) ((allL ts.length (HT ts ws lots lots.length)).take (k : Int).toNat) w) ∧ Fr 98 [(0, vt), (18, v18), (83, v13), (84, .int .i64 (allL ts.length (HT ts ws lots lots.length)).length), (85, .int .i64 k)] a) ?_ (T3.seq (s := (sel [1, 1, 1, 1, 1, 1, 1, 1, 0, 1, 4, 4, 1, 1, 0] doR)) (c := (sel [1, 1, 1, 1, 1, 1, 1, 1, 0, 1, 4, 4, 1, 1, 1] doR)) (S := fun a w => (0 ≤ k ∧ k < (allL ts.length (HT ts ws lots lots.length)).length) ∧ ∃ (v18 : Value), (Dn w0 ts v13 v18 (allL ts.length (HT ts ws lots lots.length)) ((allL ts.length (HT ts ws lots lots.length)).take ((k + 1) : Int).toNat) w) ∧ Fr 98 [(0, vt), (18, v18), (83, v13), (84, .int .i64 (allL ts.length (HT ts ws lots lots.length)).length), (85, .int .i64 k)] a) (T3.noX (T3.mono (R' := fun a w => (0 ≤ k ∧ k < (allL ts.length (HT ts ws lots lots.length)).length) ∧ ∃ (v18 : Value), (Dn w0 ts v13 v18 (allL ts.length (HT ts ws lots lots.length)) ((allL ts.length (HT ts ws lots lots.length)).take (k : Int).toNat) w) ∧ Fr 98 [(0, vt), (18, v18), (83, v13), (84, .int .i64 (allL ts.length (HT ts ws lots lots.length)).length), (85, .int .i64 k)] a) (S' := fun a w => (0 ≤ k ∧ k < (allL ts.length (HT ts ws lots lots.length)).length) ∧ ∃ (v18 : Value), (Dn w0 ts v13 v18 (allL ts.length (HT ts ws lots lots.length)) ((allL ts.length (HT ts ws lots lots.length)).take ((k + 1) : Int).toNat) w) ∧ Fr 98 [(0, vt), (18, v18), (83, v13), (84, .int .i64 (allL ts.length (HT ts ws lots lots.length)).length), (85, .int .i64 k)] a) (do5b w0 vt vw vl ts ws lots top h d v13 k) (fun a w ⟨hk, v18, hI⟩ => ⟨v18, hk, hI⟩) (fun a w ⟨v18, hk, hI⟩ => ⟨hk, v18, hI⟩) (fun _ _ q => q) (fun _ _ q => q))) ?_)
  · refine T3.cond (o := .tmp 86) (x := .skip) (y := .exit 8) (fun a w => k < (allL ts.length (HT ts ws lots lots.length)).length ∧ do5I w0 vt vw vl ts ws lots top h d v13 k a w) (fun a w => ¬ k < (allL ts.length (HT ts ws lots lots.length)).length ∧ do5I w0 vt vw vl ts ws lots top h d v13 k a w) ?_ (T3.skip ?_) (T3.exit ?_)
    · rintro a w ⟨q, hF, hq, hI⟩
      have he := hF.eval 86 (by decide) (v := .bool q) (by simp)
      cases q
      · exact .inr ⟨he, (fun h => by have := hq.2 h; cases this), hI⟩
      · exact .inl ⟨he, hq.1 rfl, hI⟩
    · rintro a w ⟨hlt, hk, hI⟩
      exact ⟨⟨hk.1, hlt⟩, hI⟩
    · rintro a w ⟨hlt, hk, hI⟩
      obtain rfl : k = (allL ts.length (HT ts ws lots lots.length)).length := by omega
      obtain ⟨v18, hW, hF⟩ := hI
      rw [show ((allL ts.length (HT ts ws lots lots.length)).length : Int).toNat = (allL ts.length (HT ts ws lots lots.length)).length by omega, List.take_length] at hW
      exact ⟨v18, hW, hF.sub (by simp)⟩
  · intro a w hx
    have hk := hx.1
    exact (((do5n w0 vt vw vl ts ws lots top h d v13 k).noX).post (fun a w q => ⟨ng_ - 1, by omega, k + 1, by omega, q⟩)) a w hx
set_option maxRecDepth 100000 in
set_option maxHeartbeats 1000000 in
theorem do34 (w0 : World) (vt vw vl : Value) (ts : List ByteArray) (ws lots : List Int) (top : Int) (h : DH w0 vt vw vl ts ws lots) (d : DR ts ws lots) (v13 : Value) : T3 Try.prog (fun a w => ∃ (v18 : Value), (Dn w0 ts v13 v18 (allL ts.length (HT ts ws lots lots.length)) (allL ts.length (HT ts ws lots lots.length)) w) ∧ Fr 98 [(18, v18)] a) (sel [1, 1, 1, 1, 1, 1, 1, 1, 1, 0] doR) (fun a w => ∃ (v18 : Value), (Dn w0 ts v13 v18 (allL ts.length (HT ts ws lots lots.length)) (allL ts.length (HT ts ws lots lots.length)) w) ∧ Fr 98 [(8, v18), (9, .int .i64 0)] a) No 9 (fun a w => ∃ v8 : Value, Fr 98 [(8, v8), (9, .int .i64 (drawE ts ws lots top))] a ∧ w.ownsRow w0.heap.size 9 1 v8 (drawL ts ws lots top).length (cellsOf encSt (drawL ts ws lots top)) ∧ Below w0.heap.size w0 w) := by
  refine T3.leaf ?_
  rintro Q JS JX JT K hS hK hX hE hT hR a w ⟨v18, hW, ⟨fr, rfl, q18, _⟩⟩
  have HW := Lib.hid hW
  obtain ⟨p9, c9, hv9⟩ := (Row.of_owns hW.nm).shape
  subst hv9
  clear hW
  generalize allL ts.length (HT ts ws lots lots.length) = AL at *
  rw [fr_doR, show fr 18 = _ from q18]
  clear q18
  conv => arg 2; whnf
  go_wp2_with fail
  refine Met.intro (hS _ _ ?_)
  exact ⟨_, HW.out, Fr.of _ rfl ⟨rfl, rfl, trivial⟩⟩

theorem dr_of {ts : List ByteArray} {ws lots : List Int} {top : Int} (h : topE ts ws top = 0) (hl : (lots.length : Int) = top) : DR ts ws lots := by
  have hw : weightsE ts ws = 0 := by
    refine Decidable.byContradiction fun h0 => h0 ?_
    unfold topE at h
    rwa [if_pos h0] at h
  have ht : topB ts.length top = false := by
    cases hb : topB ts.length top
    · rfl
    · unfold topE at h
      rw [if_neg (by simp [hw]), hb] at h
      cases h
  refine ⟨w_good hw, ?_⟩
  unfold topB at ht
  simp at ht
  omega
set_option maxRecDepth 100000 in
set_option maxHeartbeats 1000000 in
theorem do_all (w0 : World) (vt vw vl : Value) (ts : List ByteArray) (ws lots : List Int) (top : Int) (h : DH w0 vt vw vl ts ws lots) (hE : topE ts ws top = 0) : T3 Try.prog (fun a w => (IsW w0 w) ∧ Fr 98 [(0, vt), (1, vw), (2, vl), (3, .int .i64 top)] a) doR No No 9 (fun a w => ∃ v8 : Value, Fr 98 [(8, v8), (9, .int .i64 (drawE ts ws lots top))] a ∧ w.ownsRow w0.heap.size 9 1 v8 (drawL ts ws lots top).length (cellsOf encSt (drawL ts ws lots top)) ∧ Below w0.heap.size w0 w) := by
  refine T3.seq (s := (sel [0] doR)) (c := (sel [1] doR)) (do0 w0 vt vw vl ts ws lots top h) ?_
  refine T3.seq (s := (sel [1, 0] doR)) (c := (sel [1, 1] doR)) (S := fun a w => ((lots.length : Int) = top) ∧ (IsW w0 w) ∧ Fr 98 [(0, vt), (1, vw), (2, vl), (3, .int .i64 top)] a) ?_ (T3.pure fun hL => ?_)
  · refine T3.test (s := (sel [1, 0, 0] doR)) (x := (sel [1, 0, 1, 2] doR)) (y := .skip) (C := fun q => (q = ((lots.length : Int) != top))) (W := fun w => IsW w0 w) (by decide) (do1 w0 vt vw vl ts ws lots top h) ?_ (T3.skip ?_)
    · refine T3.seq (s := (sel [1, 0, 1, 2, 0] doR)) (c := .ret) (t3_seqx (p := (lots.length : Int) ≠ top) (do2 w0 vt vw vl ts ws lots top h) ?_) (T3.ret ?_)
      · rintro a w ⟨hF, hq, hW⟩
        exact ⟨by have := hq.symm; simpa using this, hW, hF.tail⟩
      · rintro a w ⟨hp, hW, hF⟩
        have hd := de_form hE hp
        refine ⟨_, by rw [hd]; exact hF, by rw [drawL_bad (by rw [hd]; decide)]; exact World.ownsRow_nil _ _ _ _, ?_⟩
        obtain rfl : w = w0 := hW
        exact Below.refl _ _
    · rintro a w ⟨hq, hW, hF⟩
      exact ⟨by have := hq.symm; simpa using this, hW, hF⟩
  have d := dr_of hE hL
  refine T3.seq (s := (sel [1, 1, 0] doR)) (c := (sel [1, 1, 1] doR)) (do3 w0 vt vw vl ts ws lots top h d) ?_
  refine T3.seq (s := (sel [1, 1, 1, 0] doR)) (c := (sel [1, 1, 1, 1] doR)) (T3.seq (s := (sel [1, 1, 1, 0, 0] doR)) (c := (sel [1, 1, 1, 0, 1] doR)) (do4 w0 vt vw vl ts ws lots top h d) (do0loop w0 vt vw vl ts ws lots top h d)) ?_
  refine T3.seq (s := (sel [1, 1, 1, 1, 0] doR)) (c := (sel [1, 1, 1, 1, 1] doR)) (do9 w0 vt vw vl ts ws lots top h d) ?_
  refine T3.seq (s := (sel [1, 1, 1, 1, 1, 0] doR)) (c := (sel [1, 1, 1, 1, 1, 1] doR)) (T3.seq (s := (sel [1, 1, 1, 1, 1, 0, 0] doR)) (c := (sel [1, 1, 1, 1, 1, 0, 1] doR)) (do10 w0 vt vw vl ts ws lots top h d) (do2loop w0 vt vw vl ts ws lots top h d ⟨hE, hL⟩)) ?_
  refine T3.ex fun v13 => T3.pure fun hnn => T3.pre (R := (fun a w => ∃ (v13 : Value), (Dn w0 ts v13 (.slice none 0 0) (HT ts ws lots lots.length) ([]) w) ∧ Fr 98 [(0, vt), (13, v13)] a)) ?_ (fun a w q => ⟨v13, q⟩)
  have hN := lotAt_none lots hnn
  have hd := de_ok hE hL hN
  refine T3.seq (s := (sel [1, 1, 1, 1, 1, 1, 0] doR)) (c := (sel [1, 1, 1, 1, 1, 1, 1] doR)) (T3.seq (s := (sel [1, 1, 1, 1, 1, 1, 0, 0] doR)) (c := (sel [1, 1, 1, 1, 1, 1, 0, 1] doR)) (do22 w0 vt vw vl ts ws lots top h d) (do4loop w0 vt vw vl ts ws lots top h d)) ?_
  refine T3.ex fun v13 => ?_
  refine T3.seq (s := (sel [1, 1, 1, 1, 1, 1, 1, 0] doR)) (c := (sel [1, 1, 1, 1, 1, 1, 1, 1] doR)) (do28 w0 vt vw vl ts ws lots top h d v13) ?_
  refine T3.seq (s := (sel [1, 1, 1, 1, 1, 1, 1, 1, 0] doR)) (c := (sel [1, 1, 1, 1, 1, 1, 1, 1, 1] doR)) (T3.seq (s := (sel [1, 1, 1, 1, 1, 1, 1, 1, 0, 0] doR)) (c := (sel [1, 1, 1, 1, 1, 1, 1, 1, 0, 1] doR)) (do29 w0 vt vw vl ts ws lots top h d v13) (do5loop w0 vt vw vl ts ws lots top h d v13)) ?_
  refine T3.seq (s := (sel [1, 1, 1, 1, 1, 1, 1, 1, 1, 0] doR)) (c := .ret) (do34 w0 vt vw vl ts ws lots top h d v13) (T3.ret ?_)
  rintro a w ⟨v18, hW, hF⟩
  refine ⟨v18, by rw [hd]; exact hF, ?_, hW.bel⟩
  rw [drawL_ok hd, namesL_length]
  exact hW.nm

set_option maxRecDepth 100000 in
set_option maxHeartbeats 1000000 in
theorem draw_ref (w0 : World) (vt vw vl : Value) (ts : List ByteArray) (ws lots : List Int) (top : Int) (h : DH w0 vt vw vl ts ws lots) (hE : topE ts ws top = 0) : Calls Try.prog 19 #[vt, vw, vl, .int .i64 top] w0 fun e w' => ∃ v8 : Value, e = .returned (.tuple #[v8, .int .i64 (drawE ts ws lots top)]) ∧ w'.ownsRow w0.heap.size 9 1 v8 (drawL ts ws lots top).length (cellsOf encSt (drawL ts ws lots top)) ∧ Below w0.heap.size w0 w' := by
  have hall := do_all w0 vt vw vl ts ws lots top h hE
  go_enter Try.func19, Try.ntmps19
  refine T3.done (s := doR) hall ⟨rfl, Fr.of _ rfl ⟨rfl, rfl, rfl, rfl, trivial⟩⟩ ?_
  rintro a w ⟨v8, ⟨fr, rfl, q8, q9, _⟩, ho, hb⟩
  obtain ⟨p9, c9, hv9⟩ := (Row.of_owns ho).shape
  rw [hv9] at ho
  rw [fr_doR, show fr 8 = _ from q8, hv9, show fr 9 = _ from q9]
  go_ret2
  exact ⟨_, rfl, ho, hb⟩
end Go.Proofs.Ytkdimgghljklmaa
