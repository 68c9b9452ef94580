/-
  Contracts and lemmas towards the statement, of several parts; each part says ahead of it what it holds and under which conditions.
-/
import Derived.Test.YtkdimgghljklmaaMg3
import Derived.Test.YtkdimgghljklmaaMg1
import Derived.Laws.Runes
/-
  Lots: does the team get the place when all others follow? The program's look. Conditions: at most 1000 teams; the team is one of them.
-/
set_option linter.unusedVariables false
namespace Go.Proofs.Ytkdimgghljklmaa
open Go.RowKit Go.Bw
/-- A lottery: the weights' row, the team, the place, how many are drawn, who has a place. -/
structure LH (w0 : World) (gl : Nat) (vw : Value) (who place top : Nat) (vtk : Value) (n : Nat) (h : List Nat) : Prop where
  c0 : w0.cell? ⟨gl, 0, none⟩ = some vw
  c1 : w0.cell? ⟨gl, 1, none⟩ = some (.int .i64 who)
  c2 : w0.cell? ⟨gl, 2, none⟩ = some (.int .i64 place)
  c3 : w0.cell? ⟨gl, 3, none⟩ = some (.int .i64 top)
  c4 : w0.cell? ⟨gl, 4, none⟩ = some vtk
  tk : Row w0 0 1 vtk n (takenC n h)
  hw : who < n
  hn : n ≤ 1000
  ht : top ≤ 1000
theorem LH.below {w0 w : World} {gl : Nat} {vw vtk : Value} {who place top n : Nat} {h : List Nat} (l : LH w0 gl vw who place top vtk n h) (b : Below w0.heap.size w0 w) : LH w gl vw who place top vtk n h := by
  have hl := World.block_lt_of_cell? w0 _ l.c0
  exact ⟨(b.cell (p := ⟨gl, 0, none⟩) hl).trans l.c0, (b.cell (p := ⟨gl, 1, none⟩) hl).trans l.c1, (b.cell (p := ⟨gl, 2, none⟩) hl).trans l.c2, (b.cell (p := ⟨gl, 3, none⟩) hl).trans l.c3, (b.cell (p := ⟨gl, 4, none⟩) hl).trans l.c4, l.tk.below b, l.hw, l.hn, l.ht⟩
noncomputable def otP : Code := (Try.f75.body).getD .skip
set_option maxRecDepth 100000 in
theorem fr_otP (f : Nat → Value) : frame 43 f = ⟨#[f 0, f 1, f 2, f 3, f 4, f 5, f 6, f 7, f 8, f 9, f 10, f 11, f 12, f 13, f 14, f 15, f 16, f 17, f 18, f 19, f 20, f 21, f 22, f 23, f 24, f 25, f 26, f 27, f 28, f 29, f 30, f 31, f 32, f 33, f 34, f 35, f 36, f 37, f 38, f 39, f 40, f 41, f 42], []⟩ := by rfl
set_option maxRecDepth 100000 in
set_option maxHeartbeats 1000000 in
theorem ot0 (w0 : World) (gl : Nat) (vw : Value) (who place top : Nat) (vtk : Value) (n : Nat) (h : List Nat) (l : LH w0 gl vw who place top vtk n h) : T3 Try.prog (fun a w => (Below w0.heap.size w0 w) ∧ Fr 43 [(0, .pointer (some ⟨gl, 0, none⟩))] a) (sel [0] otP) (fun a w => (Below w0.heap.size w0 w) ∧ Fr 43 [(0, .pointer (some ⟨gl, 0, none⟩))] a) No 9 (fun a w => Fr 43 [(2, .int .i64 (othersF place who h))] a ∧ Below w0.heap.size w0 w) := by
  refine T3.leaf ?_
  rintro Q JS JX JT K hS hK hX hE hT hR a w ⟨hW, ⟨fr, rfl, q0, _⟩⟩
  rw [fr_otP, show fr 0 = _ from q0]
  clear q0
  conv => arg 2; whnf
  go_wp2_with fail
  refine Met.intro (hS _ _ ?_)
  exact ⟨hW, Fr.of _ rfl ⟨rfl, trivial⟩⟩

set_option maxRecDepth 100000 in
set_option maxHeartbeats 1000000 in
theorem ot1 (w0 : World) (gl : Nat) (vw : Value) (who place top : Nat) (vtk : Value) (n : Nat) (h : List Nat) (l : LH w0 gl vw who place top vtk n h) : T3 Try.prog (fun a w => (Below w0.heap.size w0 w) ∧ Fr 43 [(0, .pointer (some ⟨gl, 0, none⟩))] a) (sel [1, 0, 0] otP) (fun a w => ∃ q, Fr 43 ((14, .bool q) :: [(0, .pointer (some ⟨gl, 0, none⟩))]) a ∧ ((q = h.contains who) ∧ Below w0.heap.size w0 w)) No 9 (fun a w => Fr 43 [(2, .int .i64 (othersF place who h))] a ∧ Below w0.heap.size w0 w) := by
  refine T3.leafN ?_
  rintro JS hS a w ⟨hW, ⟨fr, rfl, q0, _⟩⟩
  have L := l.below hW
  have x0 := L.c0
  have x1 := L.c1
  have x2 := L.c2
  have x3 := L.c3
  have x4 := L.c4
  have lw := L.hw
  have ln := L.hn
  have lt := L.ht
  obtain ⟨_, hcs⟩ := L.tk
  rcases hcs with ⟨rfl, h0⟩ | ⟨bz, off, cap, rfl, _, hbz, hnc, hcm, hcell⟩
  · omega
  unfold maxLen at hcm
  have t0 := hcell who _ (takenC_at n h who lw)
  clear hcell L
  generalize h.contains who = q at *
  rw [fr_otP, show fr 0 = _ from q0]
  clear q0
  conv => arg 2; whnf
  refine wp_region_mix (none) [(true, 0), (true, 1), (true, 2), (true, 3), (true, 4), (true, 5), (true, 6), (true, 7), (true, 8), (true, 9)] (by kernel_rfl) (by kernel_rfl) (by intro c a d v w h; cases d <;> exact h) ?_
  simp only [pickFlat, List.filterMap_cons, List.filterMap_nil, List.getElem?_cons_succ, List.getElem?_cons_zero, Option.map_some]
  have A1 := wof_at (w₁ := w.drew) (row := none) (a := ⟨gl, 1, none⟩) x1 (by simp)
  have A4 := wof_at (w₁ := w.drew) (row := none) (a := ⟨gl, 4, none⟩) x4 (by simp)
  have A5 := wof_at (w₁ := w.drew) (row := none) (a := ⟨bz, off + who, none⟩) t0 (by simp)
  refine flat_hide (fun W hH hC hN hE => ?_)
  iterate 10 (refine hH.out _ _ _ _ (fun K hK => ?_); go_simp; refine hK _ ?_; clear hK K)
  refine hE.out _ _ ?_
  clear hH hC hN hE W
  show JS _ _
  refine hS _ _ ?_
  exact ⟨q, Fr.of _ rfl ⟨rfl, rfl, trivial⟩, rfl, below_drewN hW 1⟩

set_option maxRecDepth 100000 in
set_option maxHeartbeats 1000000 in
theorem ot2 (w0 : World) (gl : Nat) (vw : Value) (who place top : Nat) (vtk : Value) (n : Nat) (h : List Nat) (l : LH w0 gl vw who place top vtk n h) : T3 Try.prog (fun a w => (Below w0.heap.size w0 w) ∧ Fr 43 [(0, .pointer (some ⟨gl, 0, none⟩))] a) (sel [1, 0, 1, 2, 0] otP) (fun a w => (Below w0.heap.size w0 w) ∧ Fr 43 [(2, .int .i64 1)] a) No 9 (fun a w => Fr 43 [(2, .int .i64 (othersF place who h))] a ∧ Below w0.heap.size w0 w) := by
  refine T3.leaf ?_
  rintro Q JS JX JT K hS hK hX hE hT hR a w ⟨hW, ⟨fr, rfl, q0, _⟩⟩
  rw [fr_otP, show fr 0 = _ from q0]
  clear q0
  conv => arg 2; whnf
  go_wp2_with fail
  refine Met.intro (hS _ _ ?_)
  exact ⟨hW, Fr.of _ rfl ⟨rfl, trivial⟩⟩

set_option maxRecDepth 100000 in
set_option maxHeartbeats 1000000 in
theorem ot3 (w0 : World) (gl : Nat) (vw : Value) (who place top : Nat) (vtk : Value) (n : Nat) (h : List Nat) (l : LH w0 gl vw who place top vtk n h) : T3 Try.prog (fun a w => (Below w0.heap.size w0 w) ∧ Fr 43 [(0, .pointer (some ⟨gl, 0, none⟩))] a) (sel [1, 1, 0] otP) (fun a w => (Below w0.heap.size w0 w) ∧ Fr 43 [(0, .pointer (some ⟨gl, 0, none⟩)), (3, .int .i64 top)] a) No 9 (fun a w => Fr 43 [(2, .int .i64 (othersF place who h))] a ∧ Below w0.heap.size w0 w) := by
  refine T3.leaf ?_
  rintro Q JS JX JT K hS hK hX hE hT hR a w ⟨hW, ⟨fr, rfl, q0, _⟩⟩
  have L := l.below hW
  have x0 := L.c0
  have x1 := L.c1
  have x2 := L.c2
  have x3 := L.c3
  have x4 := L.c4
  have lw := L.hw
  have ln := L.hn
  have lt := L.ht
  obtain ⟨_, hcs⟩ := L.tk
  rcases hcs with ⟨rfl, h0⟩ | ⟨bz, off, cap, rfl, _, hbz, hnc, hcm, hcell⟩
  · omega
  unfold maxLen at hcm
  clear hcell L
  rw [fr_otP, show fr 0 = _ from q0]
  clear q0
  conv => arg 2; whnf
  go_wp2_with fail
  refine Met.intro (hS _ _ ?_)
  exact ⟨hW, Fr.of _ rfl ⟨rfl, rfl, trivial⟩⟩

set_option maxRecDepth 100000 in
set_option maxHeartbeats 1000000 in
theorem ot4 (w0 : World) (gl : Nat) (vw : Value) (who place top : Nat) (vtk : Value) (n : Nat) (h : List Nat) (l : LH w0 gl vw who place top vtk n h) : T3 Try.prog (fun a w => (Below w0.heap.size w0 w) ∧ Fr 43 [(0, .pointer (some ⟨gl, 0, none⟩)), (3, .int .i64 top)] a) (sel [1, 1, 1, 0, 0] otP) (fun a w => (0 ≤ (0 : Int) ∧ (0 : Int) ≤ who) ∧ (Below w0.heap.size w0 w) ∧ Fr 43 [(0, .pointer (some ⟨gl, 0, none⟩)), (3, .int .i64 (top + ((restTo h (0 : Int).toNat).length : Nat))), (22, .int .i64 who), (23, .int .i64 0)] a) No 9 (fun a w => Fr 43 [(2, .int .i64 (othersF place who h))] a ∧ Below w0.heap.size w0 w) := by
  refine T3.leaf ?_
  rintro Q JS JX JT K hS hK hX hE hT hR a w ⟨hW, ⟨fr, rfl, q0, q3, _⟩⟩
  have L := l.below hW
  have x0 := L.c0
  have x1 := L.c1
  have x2 := L.c2
  have x3 := L.c3
  have x4 := L.c4
  have lw := L.hw
  have ln := L.hn
  have lt := L.ht
  obtain ⟨_, hcs⟩ := L.tk
  rcases hcs with ⟨rfl, h0⟩ | ⟨bz, off, cap, rfl, _, hbz, hnc, hcm, hcell⟩
  · omega
  unfold maxLen at hcm
  clear hcell L
  have hz : (top : Int) + ((restTo h (0 : Int).toNat).length : Nat) = top := by simp [restTo]
  have HZ := Lib.hid hz
  clear hz
  rw [fr_otP, show fr 0 = _ from q0, show fr 3 = _ from q3]
  clear q0 q3
  conv => arg 2; whnf
  go_wp2_with fail
  refine Met.intro (hS _ _ ?_)
  rw [HZ.out]
  exact ⟨⟨by omega, by omega⟩, hW, Fr.of _ rfl ⟨rfl, rfl, rfl, rfl, trivial⟩⟩

set_option maxRecDepth 100000 in
set_option maxHeartbeats 1000000 in
theorem ot6 (w0 : World) (gl : Nat) (vw : Value) (who place top : Nat) (vtk : Value) (n : Nat) (h : List Nat) (l : LH w0 gl vw who place top vtk n h) (k : Int) : T3 Try.prog (fun a w => (0 ≤ k ∧ k < who) ∧ (Below w0.heap.size w0 w) ∧ Fr 43 [(0, .pointer (some ⟨gl, 0, none⟩)), (3, .int .i64 (top + ((restTo h (k : Int).toNat).length : Nat))), (22, .int .i64 who), (23, .int .i64 k)] a) (sel [1, 1, 1, 0, 1, 4, 4, 1, 1, 0, 4, 0] otP) (fun a w => (0 ≤ k ∧ k < who) ∧ (Below w0.heap.size w0 w) ∧ Fr 43 [(0, .pointer (some ⟨gl, 0, none⟩)), (3, .int .i64 (top + ((restTo h (k : Int).toNat).length : Nat))), (4, .int .i64 k), (22, .int .i64 who), (23, .int .i64 k)] a) No 9 (fun a w => Fr 43 [(2, .int .i64 (othersF place who h))] a ∧ Below w0.heap.size w0 w) := by
  refine T3.leaf ?_
  rintro Q JS JX JT K hS hK hX hE hT hR a w ⟨hpre, hW, ⟨fr, rfl, q0, q3, q22, q23, _⟩⟩
  have hpp := Lib.hid hpre
  rw [fr_otP, show fr 0 = _ from q0, show fr 3 = _ from q3, show fr 22 = _ from q22, show fr 23 = _ from q23]
  clear q0 q3 q22 q23
  conv => arg 2; whnf
  go_wp2_with fail
  refine Met.intro (hS _ _ ?_)
  exact ⟨hpp.out, hW, Fr.of _ rfl ⟨rfl, rfl, rfl, rfl, rfl, trivial⟩⟩

set_option maxRecDepth 100000 in
set_option maxHeartbeats 1000000 in
theorem ot7 (w0 : World) (gl : Nat) (vw : Value) (who place top : Nat) (vtk : Value) (n : Nat) (h : List Nat) (l : LH w0 gl vw who place top vtk n h) (k : Int) : T3 Try.prog (fun a w => (0 ≤ k ∧ k < who) ∧ (Below w0.heap.size w0 w) ∧ Fr 43 [(0, .pointer (some ⟨gl, 0, none⟩)), (3, .int .i64 (top + ((restTo h (k : Int).toNat).length : Nat))), (4, .int .i64 k), (22, .int .i64 who), (23, .int .i64 k)] a) (sel [1, 1, 1, 0, 1, 4, 4, 1, 1, 0, 4, 1, 0] otP) (fun a w => ∃ q, Fr 43 ((33, .bool q) :: [(0, .pointer (some ⟨gl, 0, none⟩)), (3, .int .i64 (top + ((restTo h (k : Int).toNat).length : Nat))), (4, .int .i64 k), (22, .int .i64 who), (23, .int .i64 k)]) a ∧ (((0 ≤ k ∧ k < who) ∧ q = !h.contains k.toNat) ∧ Below w0.heap.size w0 w)) No 9 (fun a w => Fr 43 [(2, .int .i64 (othersF place who h))] a ∧ Below w0.heap.size w0 w) := by
  refine T3.leaf ?_
  rintro Q JS JX JT K hS hK hX hE hT hR a w ⟨hpre, hW, ⟨fr, rfl, q0, q3, q4, q22, q23, _⟩⟩
  have hpp := Lib.hid hpre
  obtain ⟨hk0, hk1⟩ := hpre
  have L := l.below hW
  have x0 := L.c0
  have x1 := L.c1
  have x2 := L.c2
  have x3 := L.c3
  have x4 := L.c4
  have lw := L.hw
  have ln := L.hn
  have lt := L.ht
  obtain ⟨_, hcs⟩ := L.tk
  rcases hcs with ⟨rfl, h0⟩ | ⟨bz, off, cap, rfl, _, hbz, hnc, hcm, hcell⟩
  · omega
  unfold maxLen at hcm
  have t0 := hcell k.toNat _ (takenC_at n h k.toNat (by omega))
  clear hcell L
  generalize h.contains k.toNat = q at *
  rw [fr_otP, show fr 0 = _ from q0, show fr 3 = _ from q3, show fr 4 = _ from q4, show fr 22 = _ from q22, show fr 23 = _ from q23]
  clear q0 q3 q4 q22 q23
  conv => arg 2; whnf
  go_wp2_with fail
  have hpre := hpp.out
  refine Met.intro (hS _ _ ?_)
  exact ⟨_, Fr.of _ rfl ⟨rfl, rfl, rfl, rfl, rfl, rfl, trivial⟩, ⟨hpre, rfl⟩, hW⟩

set_option maxRecDepth 100000 in
set_option maxHeartbeats 1000000 in
theorem ot8 (w0 : World) (gl : Nat) (vw : Value) (who place top : Nat) (vtk : Value) (n : Nat) (h : List Nat) (l : LH w0 gl vw who place top vtk n h) (k : Int) : T3 Try.prog (fun a w => Fr 43 ((33, .bool true) :: [(0, .pointer (some ⟨gl, 0, none⟩)), (3, .int .i64 (top + ((restTo h (k : Int).toNat).length : Nat))), (4, .int .i64 k), (22, .int .i64 who), (23, .int .i64 k)]) a ∧ ((0 ≤ k ∧ k < who) ∧ true = !h.contains k.toNat) ∧ Below w0.heap.size w0 w) (sel [1, 1, 1, 0, 1, 4, 4, 1, 1, 0, 4, 1, 1, 2] otP) (fun a w => (0 ≤ k ∧ k < who) ∧ (Below w0.heap.size w0 w) ∧ Fr 43 [(0, .pointer (some ⟨gl, 0, none⟩)), (3, .int .i64 (top + ((restTo h ((k + 1) : Int).toNat).length : Nat))), (22, .int .i64 who), (23, .int .i64 k)] a) No 9 (fun a w => Fr 43 [(2, .int .i64 (othersF place who h))] a ∧ Below w0.heap.size w0 w) := by
  refine T3.leaf ?_
  rintro Q JS JX JT K hS hK hX hE hT hR a w ⟨⟨fr, rfl, q33, q0, q3, q4, q22, q23, _⟩, ⟨hpre, hq⟩, hW⟩
  have hpp := Lib.hid hpre
  obtain ⟨hk0, hk1⟩ := hpre
  have hcn : h.contains k.toNat = false := by simpa using hq.symm
  have Hs := Lib.hid (show ((restTo h (k + 1).toNat).length : Nat) = (restTo h k.toNat).length + 1 by rw [show (k + 1).toNat = k.toNat + 1 by omega, restTo_succ, hcn]; simp)
  have hrl : (restTo h k.toNat).length ≤ k.toNat := by unfold restTo; exact Nat.le_trans (List.length_filter_le _ _) (by simp)
  have lt := l.ht
  have lw := l.hw
  have ln := l.hn
  clear hq hcn
  generalize (restTo h k.toNat).length = rl at *
  rw [fr_otP, show fr 33 = _ from q33, show fr 0 = _ from q0, show fr 3 = _ from q3, show fr 4 = _ from q4, show fr 22 = _ from q22, show fr 23 = _ from q23]
  clear q33 q0 q3 q4 q22 q23
  conv => arg 2; whnf
  go_wp2_with fail
  refine Met.intro (hS _ _ ?_)
  rw [Hs.out, show (top : Int) + ((rl + 1 : Nat) : Int) = top + rl + 1 by omega]
  exact ⟨hpp.out, hW, Fr.of _ rfl ⟨rfl, rfl, rfl, rfl, trivial⟩⟩

set_option maxRecDepth 100000 in
set_option maxHeartbeats 1000000 in
theorem otb (w0 : World) (gl : Nat) (vw : Value) (who place top : Nat) (vtk : Value) (n : Nat) (h : List Nat) (l : LH w0 gl vw who place top vtk n h) (k : Int) : T3 Try.prog (fun a w => (0 ≤ k ∧ k < who) ∧ (Below w0.heap.size w0 w) ∧ Fr 43 [(0, .pointer (some ⟨gl, 0, none⟩)), (3, .int .i64 (top + ((restTo h (k : Int).toNat).length : Nat))), (22, .int .i64 who), (23, .int .i64 k)] a) (sel [1, 1, 1, 0, 1, 4, 4, 1, 1, 0] otP) (fun a w => (0 ≤ k ∧ k < who) ∧ (Below w0.heap.size w0 w) ∧ Fr 43 [(0, .pointer (some ⟨gl, 0, none⟩)), (3, .int .i64 (top + ((restTo h ((k + 1) : Int).toNat).length : Nat))), (22, .int .i64 who), (23, .int .i64 k)] a) No 9 (fun a w => Fr 43 [(2, .int .i64 (othersF place who h))] a ∧ Below w0.heap.size w0 w) := by
  refine T3.block (id' := 1) (c := (sel [1, 1, 1, 0, 1, 4, 4, 1, 1, 0, 4] otP)) (by decide) ?_
  refine T3.seq (s := (sel [1, 1, 1, 0, 1, 4, 4, 1, 1, 0, 4, 0] otP)) (c := (sel [1, 1, 1, 0, 1, 4, 4, 1, 1, 0, 4, 1] otP)) (ot6 w0 gl vw who place top vtk n h l k) ?_
  refine T3.test (s := (sel [1, 1, 1, 0, 1, 4, 4, 1, 1, 0, 4, 1, 0] otP)) (x := (sel [1, 1, 1, 0, 1, 4, 4, 1, 1, 0, 4, 1, 1, 2] otP)) (y := .skip) (C := fun q => ((0 ≤ k ∧ k < who) ∧ q = !h.contains k.toNat)) (W := fun w => Below w0.heap.size w0 w) (by decide) (ot7 w0 gl vw who place top vtk n h l k) (ot8 w0 gl vw who place top vtk n h l k) (T3.skip ?_)
  rintro a w ⟨⟨hp, hq⟩, hW, hF⟩
  have hcn : h.contains k.toNat = true := by simpa using hq.symm
  refine ⟨hp, hW, ?_⟩
  rw [show (k + 1).toNat = k.toNat + 1 by omega, restTo_succ, hcn]
  simpa using hF.sub (l' := [(0, .pointer (some ⟨gl, 0, none⟩)), (3, .int .i64 (top + ((restTo h (k : Int).toNat).length : Nat))), (22, .int .i64 who), (23, .int .i64 k)]) (by simp)

def otI (w0 : World) (gl : Nat) (vw : Value) (who place top : Nat) (vtk : Value) (n : Nat) (h : List Nat) (l : LH w0 gl vw who place top vtk n h) (k : Int) (a : Act) (w : World) : Prop := (0 ≤ k ∧ k ≤ who) ∧ (Below w0.heap.size w0 w) ∧ Fr 43 [(0, .pointer (some ⟨gl, 0, none⟩)), (3, .int .i64 (top + ((restTo h (k : Int).toNat).length : Nat))), (22, .int .i64 who), (23, .int .i64 k)] a
set_option maxRecDepth 100000 in
set_option maxHeartbeats 1000000 in
theorem ott (w0 : World) (gl : Nat) (vw : Value) (who place top : Nat) (vtk : Value) (n : Nat) (h : List Nat) (l : LH w0 gl vw who place top vtk n h) (k : Int) : T3 Try.prog (fun a w => otI w0 gl vw who place top vtk n h l k a w) (sel [1, 1, 1, 0, 1, 4, 4, 0] otP) (fun a w => ∃ q, Fr 43 ((24, .bool q) :: [(23, .int .i64 k)]) a ∧ ((q = true ↔ k < who) ∧ otI w0 gl vw who place top vtk n h l k a w)) No 9 (fun a w => Fr 43 [(2, .int .i64 (othersF place who h))] a ∧ Below w0.heap.size w0 w) := by
  refine T3.leaf ?_
  rintro Q JS JX JT K hS hK hX hE hT hR a w ⟨hk, hW, ⟨fr, rfl, q0, q3, q22, q23, _⟩⟩
  have lw := l.hw
  have ln := l.hn
  rw [fr_otP, show fr 0 = _ from q0, show fr 3 = _ from q3, show fr 22 = _ from q22, show fr 23 = _ from q23]
  clear q0 q3 q22 q23
  conv => arg 2; whnf
  by_cases hlt : k < who
  · go_wp2_with fail
    refine Met.intro (hS _ _ ?_)
    exact ⟨true, Fr.of _ rfl ⟨rfl, rfl, trivial⟩, ⟨fun _ => hlt, fun _ => rfl⟩, hk, hW, Fr.of _ rfl ⟨rfl, rfl, rfl, rfl, trivial⟩⟩
  · have hpb : decide (k < (who)) = false := by simp; omega
    go_wp2_with fail
    refine Met.intro (hS _ _ ?_)
    exact ⟨false, Fr.of _ rfl ⟨rfl, rfl, trivial⟩, ⟨(fun h => by cases h), fun h => absurd h (by omega)⟩, hk, hW, Fr.of _ rfl ⟨rfl, rfl, rfl, rfl, trivial⟩⟩

set_option maxRecDepth 100000 in
set_option maxHeartbeats 1000000 in
theorem otn (w0 : World) (gl : Nat) (vw : Value) (who place top : Nat) (vtk : Value) (n : Nat) (h : List Nat) (l : LH w0 gl vw who place top vtk n h) (k : Int) : T3 Try.prog (fun a w => (0 ≤ k ∧ k < who) ∧ (Below w0.heap.size w0 w) ∧ Fr 43 [(0, .pointer (some ⟨gl, 0, none⟩)), (3, .int .i64 (top + ((restTo h ((k + 1) : Int).toNat).length : Nat))), (22, .int .i64 who), (23, .int .i64 k)] a) (sel [1, 1, 1, 0, 1, 4, 4, 1, 1, 1] otP) (fun a w => otI w0 gl vw who place top vtk n h l (k + 1) a w) No 9 (fun a w => Fr 43 [(2, .int .i64 (othersF place who h))] a ∧ Below w0.heap.size w0 w) := by
  refine T3.leaf ?_
  rintro Q JS JX JT K hS hK hX hE hT hR a w ⟨hk, hW, ⟨fr, rfl, q0, q3, q22, q23, _⟩⟩
  obtain ⟨hk0, hk1⟩ := hk
  have lw := l.hw
  have ln := l.hn
  rw [fr_otP, show fr 0 = _ from q0, show fr 3 = _ from q3, show fr 22 = _ from q22, show fr 23 = _ from q23]
  clear q0 q3 q22 q23
  conv => arg 2; whnf
  go_wp2_with fail
  refine Met.intro (hS _ _ ?_)
  exact ⟨⟨by omega, by omega⟩, hW, Fr.of _ rfl ⟨rfl, rfl, rfl, rfl, trivial⟩⟩

set_option maxRecDepth 100000 in
set_option maxHeartbeats 1000000 in
theorem otloop (w0 : World) (gl : Nat) (vw : Value) (who place top : Nat) (vtk : Value) (n : Nat) (h : List Nat) (l : LH w0 gl vw who place top vtk n h) : T3 Try.prog (fun a w => otI w0 gl vw who place top vtk n h l 0 a w) (sel [1, 1, 1, 0, 1] otP) (fun a w => (Below w0.heap.size w0 w) ∧ Fr 43 [(0, .pointer (some ⟨gl, 0, none⟩)), (3, .int .i64 (top + (beforeF who h : Nat)))] a) No 9 (fun a w => Fr 43 [(2, .int .i64 (othersF place who h))] a ∧ Below w0.heap.size w0 w) := by
  refine T3.loop (c := (sel [1, 1, 1, 0, 1, 4, 4] otP)) (fun ng_ a w => ∃ k : Int, (ng_ : Int) = who - k ∧ otI w0 gl vw who place top vtk n h l k a w) (fun a w h => ⟨(who : Int).toNat, 0, by have := h.1.2; omega, h⟩) (fun ng_ => T3.ex fun k => T3.pure fun hng_ => ?_)
  refine T3.seq (s := (sel [1, 1, 1, 0, 1, 4, 4, 0] otP)) (c := (sel [1, 1, 1, 0, 1, 4, 4, 1] otP)) ((ott w0 gl vw who place top vtk n h l k).noX) ?_
  refine T3.seq (s := (sel [1, 1, 1, 0, 1, 4, 4, 1, 0] otP)) (c := (sel [1, 1, 1, 0, 1, 4, 4, 1, 1] otP)) (S := fun a w => (0 ≤ k ∧ k < who) ∧ (Below w0.heap.size w0 w) ∧ Fr 43 [(0, .pointer (some ⟨gl, 0, none⟩)), (3, .int .i64 (top + ((restTo h (k : Int).toNat).length : Nat))), (22, .int .i64 who), (23, .int .i64 k)] a) ?_ (T3.seq (s := (sel [1, 1, 1, 0, 1, 4, 4, 1, 1, 0] otP)) (c := (sel [1, 1, 1, 0, 1, 4, 4, 1, 1, 1] otP)) (S := fun a w => (0 ≤ k ∧ k < who) ∧ (Below w0.heap.size w0 w) ∧ Fr 43 [(0, .pointer (some ⟨gl, 0, none⟩)), (3, .int .i64 (top + ((restTo h ((k + 1) : Int).toNat).length : Nat))), (22, .int .i64 who), (23, .int .i64 k)] a) (T3.noX ((otb w0 gl vw who place top vtk n h l k).mono (fun a w q => q) (fun a w q => q) (fun _ _ q => q) (fun _ _ q => q))) ?_)
  · refine T3.cond (o := .tmp 24) (x := .skip) (y := .exit 0) (fun a w => k < who ∧ otI w0 gl vw who place top vtk n h l k a w) (fun a w => ¬ k < who ∧ otI w0 gl vw who place top vtk n h l k a w) ?_ (T3.skip ?_) (T3.exit ?_)
    · rintro a w ⟨q, hF, hq, hI⟩
      have he := hF.eval 24 (by decide) (v := .bool q) (by simp)
      cases q
      · exact .inr ⟨he, (fun h => by have := hq.2 h; cases this), hI⟩
      · exact .inl ⟨he, hq.1 rfl, hI⟩
    · rintro a w ⟨hlt, hk, hI⟩
      exact ⟨⟨hk.1, hlt⟩, hI⟩
    · rintro a w ⟨hlt, hk, hI⟩
      obtain rfl : k = who := by omega
      refine ⟨hI.1, ?_⟩
      have hF := hI.2
      rw [show ((who : Nat) : Int).toNat = who by omega] at hF
      exact hF.sub (by simp [beforeF, restTo])
  · intro a w hx
    have hk := hx.1
    exact (((otn w0 gl vw who place top vtk n h l k).noX).post (fun a w q => ⟨ng_ - 1, by omega, k + 1, by omega, q⟩)) a w hx
set_option maxRecDepth 100000 in
set_option maxHeartbeats 1000000 in
theorem ot10 (w0 : World) (gl : Nat) (vw : Value) (who place top : Nat) (vtk : Value) (n : Nat) (h : List Nat) (l : LH w0 gl vw who place top vtk n h) : T3 Try.prog (fun a w => (Below w0.heap.size w0 w) ∧ Fr 43 [(0, .pointer (some ⟨gl, 0, none⟩)), (3, .int .i64 (top + (beforeF who h : Nat)))] a) (sel [1, 1, 1, 1, 0, 0] otP) (fun a w => ∃ q, Fr 43 ((42, .bool q) :: [(0, .pointer (some ⟨gl, 0, none⟩)), (3, .int .i64 (top + (beforeF who h : Nat)))]) a ∧ ((q = ((top : Int) + (beforeF who h : Nat) == place)) ∧ Below w0.heap.size w0 w)) No 9 (fun a w => Fr 43 [(2, .int .i64 (othersF place who h))] a ∧ Below w0.heap.size w0 w) := by
  refine T3.leaf ?_
  rintro Q JS JX JT K hS hK hX hE hT hR a w ⟨hW, ⟨fr, rfl, q0, q3, _⟩⟩
  have L := l.below hW
  have x0 := L.c0
  have x1 := L.c1
  have x2 := L.c2
  have x3 := L.c3
  have x4 := L.c4
  have lw := L.hw
  have ln := L.hn
  have lt := L.ht
  obtain ⟨_, hcs⟩ := L.tk
  rcases hcs with ⟨rfl, h0⟩ | ⟨bz, off, cap, rfl, _, hbz, hnc, hcm, hcell⟩
  · omega
  unfold maxLen at hcm
  clear hcell L
  generalize beforeF who h = bf at *
  rw [fr_otP, show fr 0 = _ from q0, show fr 3 = _ from q3]
  clear q0 q3
  conv => arg 2; whnf
  go_wp2_with fail
  refine Met.intro (hS _ _ ?_)
  exact ⟨_, Fr.of _ rfl ⟨rfl, rfl, rfl, trivial⟩, rfl, hW⟩

set_option maxRecDepth 100000 in
set_option maxHeartbeats 1000000 in
theorem ot11 (w0 : World) (gl : Nat) (vw : Value) (who place top : Nat) (vtk : Value) (n : Nat) (h : List Nat) (l : LH w0 gl vw who place top vtk n h) : T3 Try.prog (fun a w => (Below w0.heap.size w0 w) ∧ Fr 43 [(0, .pointer (some ⟨gl, 0, none⟩)), (3, .int .i64 (top + (beforeF who h : Nat)))] a) (sel [1, 1, 1, 1, 0, 1, 2, 0] otP) (fun a w => (Below w0.heap.size w0 w) ∧ Fr 43 [(2, .int .i64 1)] a) No 9 (fun a w => Fr 43 [(2, .int .i64 (othersF place who h))] a ∧ Below w0.heap.size w0 w) := by
  refine T3.leaf ?_
  rintro Q JS JX JT K hS hK hX hE hT hR a w ⟨hW, ⟨fr, rfl, q0, q3, _⟩⟩
  rw [fr_otP, show fr 0 = _ from q0, show fr 3 = _ from q3]
  clear q0 q3
  conv => arg 2; whnf
  go_wp2_with fail
  refine Met.intro (hS _ _ ?_)
  exact ⟨hW, Fr.of _ rfl ⟨rfl, trivial⟩⟩

set_option maxRecDepth 100000 in
set_option maxHeartbeats 1000000 in
theorem ot12 (w0 : World) (gl : Nat) (vw : Value) (who place top : Nat) (vtk : Value) (n : Nat) (h : List Nat) (l : LH w0 gl vw who place top vtk n h) : T3 Try.prog (fun a w => (Below w0.heap.size w0 w) ∧ Fr 43 [(0, .pointer (some ⟨gl, 0, none⟩)), (3, .int .i64 (top + (beforeF who h : Nat)))] a) (sel [1, 1, 1, 1, 1, 0] otP) (fun a w => (Below w0.heap.size w0 w) ∧ Fr 43 [(2, .int .i64 0)] a) No 9 (fun a w => Fr 43 [(2, .int .i64 (othersF place who h))] a ∧ Below w0.heap.size w0 w) := by
  refine T3.leaf ?_
  rintro Q JS JX JT K hS hK hX hE hT hR a w ⟨hW, ⟨fr, rfl, q0, q3, _⟩⟩
  rw [fr_otP, show fr 0 = _ from q0, show fr 3 = _ from q3]
  clear q0 q3
  conv => arg 2; whnf
  go_wp2_with fail
  refine Met.intro (hS _ _ ?_)
  exact ⟨hW, Fr.of _ rfl ⟨rfl, trivial⟩⟩

set_option maxRecDepth 100000 in
set_option maxHeartbeats 1000000 in
theorem others_prog (w0 : World) (gl : Nat) (vw : Value) (who place top : Nat) (vtk : Value) (n : Nat) (h : List Nat) (l : LH w0 gl vw who place top vtk n h) (htop : h.length = top) : Calls Try.prog 75 #[.pointer (some ⟨gl, 0, none⟩)] w0 fun e w' => e = .returned (.int .i64 (othersF place who h)) ∧ Below w0.heap.size w0 w' := by
  have hall : T3 Try.prog (fun a w => (Below w0.heap.size w0 w) ∧ Fr 43 [(0, .pointer (some ⟨gl, 0, none⟩))] a) otP No No 9 (fun a w => Fr 43 [(2, .int .i64 (othersF place who h))] a ∧ Below w0.heap.size w0 w) := by
    refine T3.seq (s := (sel [0] otP)) (c := (sel [1] otP)) (ot0 w0 gl vw who place top vtk n h l) ?_
    refine T3.seq (s := (sel [1, 0] otP)) (c := (sel [1, 1] otP)) (S := fun a w => (h.contains who = false) ∧ (Below w0.heap.size w0 w) ∧ Fr 43 [(0, .pointer (some ⟨gl, 0, none⟩))] a) ?_ (T3.pure fun hc => ?_)
    · refine T3.test (s := (sel [1, 0, 0] otP)) (x := (sel [1, 0, 1, 2] otP)) (y := .skip) (C := fun q => (q = h.contains who)) (W := fun w => Below w0.heap.size w0 w) (by decide) (ot1 w0 gl vw who place top vtk n h l) ?_ (T3.skip ?_)
      · refine T3.seq (s := (sel [1, 0, 1, 2, 0] otP)) (c := .ret) (t3_seqx (p := h.contains who = true) (ot2 w0 gl vw who place top vtk n h l) ?_) (T3.ret ?_)
        · rintro a w ⟨hF, hq, hW⟩
          exact ⟨hq.symm, hW, hF.tail⟩
        · rintro a w ⟨hp, hW, hF⟩
          exact ⟨by unfold othersF; rw [if_pos hp]; exact hF, hW⟩
      · rintro a w ⟨hq, hW, hF⟩
        exact ⟨hq.symm, hW, hF⟩
    refine T3.seq (s := (sel [1, 1, 0] otP)) (c := (sel [1, 1, 1] otP)) (ot3 w0 gl vw who place top vtk n h l) ?_
    refine T3.seq (s := (sel [1, 1, 1, 0] otP)) (c := (sel [1, 1, 1, 1] otP)) (T3.seq (s := (sel [1, 1, 1, 0, 0] otP)) (c := (sel [1, 1, 1, 0, 1] otP)) (ot4 w0 gl vw who place top vtk n h l) (otloop w0 gl vw who place top vtk n h l)) ?_
    refine T3.seq (s := (sel [1, 1, 1, 1, 0] otP)) (c := (sel [1, 1, 1, 1, 1] otP)) (S := fun a w => (¬ h.length + beforeF who h = place) ∧ (Below w0.heap.size w0 w) ∧ Fr 43 [(0, .pointer (some ⟨gl, 0, none⟩)), (3, .int .i64 (top + (beforeF who h : Nat)))] a) ?_ (T3.pure fun hn => ?_)
    · refine T3.test (s := (sel [1, 1, 1, 1, 0, 0] otP)) (x := (sel [1, 1, 1, 1, 0, 1, 2] otP)) (y := .skip) (C := fun q => (q = ((top : Int) + (beforeF who h : Nat) == place))) (W := fun w => Below w0.heap.size w0 w) (by decide) (ot10 w0 gl vw who place top vtk n h l) ?_ (T3.skip ?_)
      · refine T3.seq (s := (sel [1, 1, 1, 1, 0, 1, 2, 0] otP)) (c := .ret) (t3_seqx (p := h.length + beforeF who h = place) (ot11 w0 gl vw who place top vtk n h l) ?_) (T3.ret ?_)
        · rintro a w ⟨hF, hq, hW⟩
          exact ⟨by have := hq.symm; simp only [beq_iff_eq] at this; omega, hW, hF.tail⟩
        · rintro a w ⟨hp, hW, hF⟩
          exact ⟨by unfold othersF; rw [if_neg (by rw [hc]; decide), if_pos hp]; exact hF, hW⟩
      · rintro a w ⟨hq, hW, hF⟩
        exact ⟨by have := hq.symm; simp only [beq_eq_false_iff_ne] at this; omega, hW, hF⟩
    refine T3.seq (s := (sel [1, 1, 1, 1, 1, 0] otP)) (c := .ret) (ot12 w0 gl vw who place top vtk n h l) (T3.ret ?_)
    rintro a w ⟨hW, hF⟩
    exact ⟨by unfold othersF; rw [if_neg (by rw [hc]; decide), if_neg hn]; exact hF, hW⟩
  go_enter Try.func75, Try.ntmps75
  refine T3.done (s := otP) hall ⟨Below.refl _ _, Fr.of _ rfl ⟨rfl, trivial⟩⟩ ?_
  rintro a w ⟨⟨fr, rfl, q2, _⟩, hW⟩
  rw [fr_otP, show fr 2 = _ from q2]
  go_ret
  exact ⟨rfl, hW⟩
end Go.Proofs.Ytkdimgghljklmaa
/-
  Lots: who gets which place, the program's Draw. Conditions: strings are no longer than Go's; at most 1000 teams, weights and lots.
-/
set_option linter.unusedVariables false
namespace Go.Bw
open Go.RowKit
/-- Rows of different types lie in different blocks. -/
theorem own_ne {w : World} {b b' e e' sz sz' n n' : Nat} {v v' : Value} {xs xs' : List Value} (h : w.ownsRow b e sz v n xs) (h' : w.ownsRow b' e' sz' v' n' xs') (he : e ≠ e') : v.ownBlock ≠ none → v.ownBlock ≠ v'.ownBlock := by
  intro hn heq
  rcases h.2 with ⟨rfl, _⟩ | ⟨g, cap, cur, rfl, _, hg, _⟩
  · exact hn rfl
  · rcases h'.2 with ⟨rfl, _⟩ | ⟨g', cap', cur', rfl, _, hg', _⟩
    · cases heq
    · simp only [Value.ownBlock, Option.some.injEq] at heq
      subst heq
      rw [hg] at hg'
      simp only [Option.some.injEq, Obj.cells.injEq] at hg'
      exact he hg'.2.1
theorem own_app {w w' : World} {b b' e e' sz sz' n n' : Nat} {v v' : Value} {xs xs' : List Value} (h : w.ownsRow b e sz v n xs) (h' : w.ownsRow b' e' sz' v' n' xs') (he : e ≠ e') (g : w.grownBy w' v'.ownBlock) : w'.ownsRow b e sz v n xs := by
  by_cases hn : v.ownBlock = none
  · exact h.kept (row := v'.ownBlock) g (.inl hn)
  · exact h.kept g (.inr (own_ne h h' he hn))
end Go.Bw
namespace Go.Proofs.Ytkdimgghljklmaa
open Go.RowKit Go.Bw
noncomputable def drP : Code := (Try.f11.body).getD .skip
set_option maxRecDepth 100000 in
theorem fr_drP (f : Nat → Value) : frame 79 f = ⟨#[f 0, f 1, f 2, f 3, f 4, f 5, f 6, f 7, f 8, f 9, f 10, f 11, f 12, f 13, f 14, f 15, f 16, f 17, f 18, f 19, f 20, f 21, f 22, f 23, f 24, f 25, f 26, f 27, f 28, f 29, f 30, f 31, f 32, f 33, f 34, f 35, f 36, f 37, f 38, f 39, f 40, f 41, f 42, f 43, f 44, f 45, f 46, f 47, f 48, f 49, f 50, f 51, f 52, f 53, f 54, f 55, f 56, f 57, f 58, f 59, f 60, f 61, f 62, f 63, f 64, f 65, f 66, f 67, f 68, f 69, f 70, f 71, f 72, f 73, f 74, f 75, f 76, f 77, f 78], []⟩ := by rfl
theorem el_strs : Elem Try.prog 26 9 (.string ByteArray.empty) 1 16 := ⟨by kernel_rfl, by kernel_rfl, by kernel_rfl, by decide, by decide⟩
theorem namesL_snoc (ts : List ByteArray) (l : List Nat) (j : Nat) : namesL ts (l ++ [j]) = namesL ts l ++ [geta ts (j : Int)] := by simp [namesL]
theorem namesL_length (ts : List ByteArray) (l : List Nat) : (namesL ts l).length = l.length := by simp [namesL]
/-- The call's own lists: who has a place, the names so far. -/
structure Dr (w0 : World) (n : Nat) (ts : List ByteArray) (v12 v13 : Value) (H G : List Nat) (w : World) : Prop where
  bel : Below w0.heap.size w0 w
  tk : w.ownsRow w0.heap.size 4 1 v12 n (takenC n H)
  out : w.ownsRow w0.heap.size 9 1 v13 G.length (cellsOf encSt (namesL ts G))
section
variable {w0 w w' : World} {n : Nat} {ts : List ByteArray} {v12 v13 v' : Value} {H G : List Nat}
theorem Dr.below (h : Dr w0 n ts v12 v13 H G w) (b : Below w.heap.size w w') : Dr w0 n ts v12 v13 H G w' :=
  ⟨h.bel.trans (b.mono h.bel.size), owns_below h.tk b (Nat.le_refl _), owns_below h.out b (Nat.le_refl _)⟩
theorem Dr.alloc (h : Dr w0 n ts v12 v13 H G w) (o : Obj) : Dr w0 n ts v12 v13 H G (w.alloc o) := h.below ((Below.refl _ _).alloc (Nat.le_refl _) o)
theorem Dr.app (h : Dr w0 n ts v12 v13 H G w) {j : Nat} (ho : w'.ownsRow w0.heap.size 9 1 v' (G.length + 1) (cellsOf encSt (namesL ts G) ++ [.string (geta ts (j : Int))])) (g : w.grownBy w' v13.ownBlock) : Dr w0 n ts v12 v' H (G ++ [j]) w' := by
  refine ⟨h.bel.grown g h.bel.size (fun k hk => (h.out.lt k hk).1), own_app h.tk h.out (by decide) g, ?_⟩
  rw [namesL_snoc, cellsOf_snoc, List.length_append]
  exact ho
theorem Dr.store {g c : Nat} (h : Dr w0 n ts (.slice (some ⟨g, 0, none⟩) n c) v13 H G w) {j : Nat} (hj : j < n) : Dr w0 n ts (.slice (some ⟨g, 0, none⟩) n c) v13 (H ++ [j]) G (w.setCell ⟨g, j, none⟩ (.bool true)) := by
  have hg := h.tk.lt g rfl
  have gr := grown_setCell w g j (.bool true)
  refine ⟨h.bel.grown gr h.bel.size (fun k hk => by cases hk; exact hg.1), ?_, own_app h.out h.tk (by decide) gr⟩
  rw [← takenC_set n H j hj]
  obtain ⟨h1, h2⟩ := h.tk
  refine ⟨by simpa using h1, ?_⟩
  rcases h2 with ⟨h2, _⟩ | ⟨g', cap', cur, hv, hb, hgc, hn, hc, hs, ht⟩
  · cases h2
  · simp only [Value.slice.injEq, Option.some.injEq, Addr.mk.injEq] at hv
    obtain ⟨⟨rfl, _⟩, _, rfl⟩ := hv
    refine .inr ⟨g, c, cur.setIfInBounds j (.bool true), rfl, hb, ?_, hn, hc, by simpa using hs, ?_⟩
    · have hlt := (Array.getElem?_eq_some_iff.1 hgc).1
      simp only [World.setCell, Array.getElem?_modify, if_true, hgc, Option.map_some]
      rfl
    · rw [← ht, Array.toList_setIfInBounds]
      exact List.take_set.symm ▸ rfl
theorem Dr.cell {g c : Nat} (h : Dr w0 n ts (.slice (some ⟨g, 0, none⟩) n c) v13 H G w) (j : Nat) (hj : j < n) : w.cell? ⟨g, j, none⟩ = some (.bool (H.contains j)) ∧ w.frozen? ⟨g, j, none⟩ = false := by
  refine ⟨?_, ?_⟩
  · have := h.tk.cells (g := g) rfl j _ (takenC_at n H j hj)
    rw [Addr.add_lit] at this; simpa using this
  · rcases h.tk.2 with ⟨h2, _⟩ | ⟨g', cap', cur, hv, _, hgc, _⟩
    · cases h2
    · simp only [Value.slice.injEq, Option.some.injEq, Addr.mk.injEq] at hv
      obtain ⟨⟨rfl, _⟩, _, rfl⟩ := hv
      unfold World.frozen?
      rw [hgc]; simp
theorem Dr.blk (h : Dr w0 n ts v12 v13 H G w) (hn : 0 < n) : ∃ g c, v12 = .slice (some ⟨g, 0, none⟩) n c := by
  rcases h.tk.2 with ⟨_, h0⟩ | ⟨g, cap, cur, rfl, _⟩
  · omega
  · exact ⟨_, _, rfl⟩
end
/-- The data of a call. -/
structure DH (w0 : World) (vt vw vl : Value) (ts : List ByteArray) (ws lots : List Int) : Prop where
  h : WH w0 vt vw ts ws
  l : Row w0 0 1 vl lots.length (lots.map (.int .i64))
  ln : lots.length ≤ 1000
/-- Where nothing is wrong. -/
structure DG (ts : List ByteArray) (ws lots : List Int) : Prop where
  g : WGood ts ws
  nn : ∀ j : Int, 0 ≤ j → j < lots.length → 0 ≤ geti lots j
  le : lots.length ≤ ts.length
def HT (ts : List ByteArray) (ws lots : List Int) (k : Int) : List Nat := lotsH ts.length ws ws.sum (lots.take k.toNat) []
theorem HT_succ (ts : List ByteArray) (ws lots : List Int) (k : Int) (h0 : 0 ≤ k) (h1 : k < lots.length) : HT ts ws lots (k + 1) = HT ts ws lots k ++ [nxt ts.length (HT ts ws lots k) (drawnF ws (geti lots k % ws.sum))] := by
  unfold HT
  rw [show (k + 1).toNat = k.toNat + 1 by omega, List.take_succ_eq_append_getElem (by omega), lotsH_snoc]
  simp [geti, show k.toNat < lots.length by omega]
theorem HT_len (ts : List ByteArray) (ws lots : List Int) (k : Int) (h0 : 0 ≤ k) (h1 : k ≤ lots.length) : ((HT ts ws lots k).length : Int) = k := by
  unfold HT
  rw [lotsH_length, List.length_take]
  simp; omega
theorem DG.pos {ts : List ByteArray} {ws lots : List Int} (d : DG ts ws lots) : 0 < ws.sum ∧ ws.sum ≤ 14000 := by
  have := sum_ge ws d.g.lo
  have := d.g.len
  have := d.g.n1
  have := d.g.n14
  omega
theorem DG.have {ts : List ByteArray} {ws lots : List Int} (d : DG ts ws lots) (k : Int) (h0 : 0 ≤ k) (h1 : k ≤ lots.length) : Have ts.length (HT ts ws lots k) :=
  lotsH_have d.g.len rfl d.pos.1 _ _ (Have.nil _) (by simp; have := d.le; omega)
theorem DG.drawn {ts : List ByteArray} {ws lots : List Int} (d : DG ts ws lots) (x : Int) : drawnF ws (x % ws.sum) < ts.length := by
  have hp := d.pos.1
  rw [← d.g.len]
  exact drawnF_lt ws _ (Int.emod_lt_of_pos _ hp) (Int.emod_nonneg _ (by omega))
set_option maxRecDepth 100000 in
set_option maxHeartbeats 1000000 in
theorem dr12 (w0 : World) (vt vw vl : Value) (ts : List ByteArray) (ws lots : List Int) (h : DH w0 vt vw vl ts ws lots) (d : DG ts ws lots) (v12 : Value) (k : Int) : T3 Try.prog (fun a w => ∃ (v13 : Value), (0 ≤ k ∧ k < lots.length) ∧ (Dr w0 ts.length ts v12 v13 (HT ts ws lots k) (HT ts ws lots k) w) ∧ Fr 79 [(0, vt), (1, vw), (11, .int .i64 ws.sum), (12, v12), (13, v13), (37, vl), (38, .int .i64 lots.length), (39, .int .i64 k)] a) (sel [1, 1, 1, 1, 1, 1, 0, 1, 4, 4, 1, 1, 0, 4, 0] drP) (fun a w => ∃ (v13 : Value), (0 ≤ k ∧ k < lots.length) ∧ (Dr w0 ts.length ts v12 v13 (HT ts ws lots k) (HT ts ws lots k) w) ∧ Fr 79 [(0, vt), (1, vw), (11, .int .i64 ws.sum), (12, v12), (13, v13), (15, .int .i64 (geti lots k)), (37, vl), (38, .int .i64 lots.length), (39, .int .i64 k)] a) No 9 No := by
  refine T3.leaf ?_
  rintro Q JS JX JT K hS hK hX hE hT hR a w ⟨v13, hpre, hW, ⟨fr, rfl, q0, q1, q11, q12, q13, q37, q38, q39, _⟩⟩
  obtain ⟨hk0, hk1⟩ := hpre
  obtain ⟨_, hcs⟩ := (h.l.below hW.bel).ints
  rcases hcs with ⟨rfl, h0⟩ | ⟨bz, off, cap, rfl, _, hbz, hnc, hcm, hcell⟩
  · omega
  have t0 := hcell k hk0 hk1
  clear hcell
  rw [fr_drP, show fr 0 = _ from q0, show fr 1 = _ from q1, show fr 11 = _ from q11, show fr 12 = _ from q12, show fr 13 = _ from q13, show fr 37 = _ from q37, show fr 38 = _ from q38, show fr 39 = _ from q39]
  clear q0 q1 q11 q12 q13 q37 q38 q39
  conv => arg 2; whnf
  go_wp2_with fail
  refine Met.intro (hS _ _ ?_)
  exact ⟨v13, ⟨hk0, hk1⟩, hW, Fr.of _ rfl ⟨rfl, rfl, rfl, rfl, rfl, rfl, rfl, rfl, rfl, trivial⟩⟩

set_option maxRecDepth 100000 in
set_option maxHeartbeats 1000000 in
theorem dr13 (w0 : World) (vt vw vl : Value) (ts : List ByteArray) (ws lots : List Int) (h : DH w0 vt vw vl ts ws lots) (d : DG ts ws lots) (v12 : Value) (k : Int) : T3 Try.prog (fun a w => ∃ (v13 : Value), (0 ≤ k ∧ k < lots.length) ∧ (Dr w0 ts.length ts v12 v13 (HT ts ws lots k) (HT ts ws lots k) w) ∧ Fr 79 [(0, vt), (1, vw), (11, .int .i64 ws.sum), (12, v12), (13, v13), (15, .int .i64 (geti lots k)), (37, vl), (38, .int .i64 lots.length), (39, .int .i64 k)] a) (sel [1, 1, 1, 1, 1, 1, 0, 1, 4, 4, 1, 1, 0, 4, 1, 0] drP) (fun a w => ∃ (v13 : Value), (0 ≤ k ∧ k < lots.length) ∧ (Dr w0 ts.length ts v12 v13 (HT ts ws lots k) (HT ts ws lots k) w) ∧ Fr 79 [(0, vt), (1, vw), (11, .int .i64 ws.sum), (12, v12), (13, v13), (16, .int .i64 (nxt ts.length (HT ts ws lots k) (drawnF ws (geti lots k % ws.sum)) : Nat)), (37, vl), (38, .int .i64 lots.length), (39, .int .i64 k)] a) No 9 No := by
  refine T3.leaf ?_
  rintro Q JS JX JT K hS hK hX hE hT hR a w ⟨v13, hpre, hW, ⟨fr, rfl, q0, q1, q11, q12, q13, q15, q37, q38, q39, _⟩⟩
  obtain ⟨hk0, hk1⟩ := hpre
  have hp := d.pos
  have hx := d.nn k hk0 hk1
  have hlen := HT_len ts ws lots k hk0 (by omega)
  have hle := d.le
  have HD := Lib.hid (fun w (hr : Row w 0 1 vw ws.length (ws.map (.int .i64))) => drawn_prog vw ws.length ws (geti lots k % ws.sum) 0 w hr d.g.lo (by have := d.g.len; have := d.g.n14; omega) (Int.emod_nonneg _ (by omega)) (Int.emod_lt_of_pos _ hp.1))
  have HF := Lib.hid (free_prog w v12 ts.length (HT ts ws lots k) (drawnF ws (geti lots k % ws.sum)) w0.heap.size (Row.of_owns hW.tk) h.h.tn (d.have k hk0 (by omega)) (by omega) (d.drawn _))
  have HR := Lib.hid (h.h.w.below hW.bel)
  obtain ⟨p1, c1, hv1⟩ := h.h.w.shape
  subst hv1
  have hn0 : ¬ (ws.sum = 0) := by omega
  have hm0 := Int.emod_nonneg (geti lots k) (show ws.sum ≠ 0 by omega)
  have hm1 := Int.emod_lt_of_pos (geti lots k) hp.1
  have hr1 : Int.tmod (geti lots k) ws.sum = geti lots k % ws.sum := Int.tmod_eq_emod_of_nonneg hx
  have hr2 : IntKind.i64.wrap (geti lots k % ws.sum) = geti lots k % ws.sum := IntWalk.i64_in _ (by omega)
  generalize hNX : nxt ts.length (HT ts ws lots k) (drawnF ws (geti lots k % ws.sum)) = nx at *
  generalize drawnF ws (geti lots k % ws.sum) = dn at *
  have HNX := Lib.hid hNX
  clear hNX
  generalize geti lots k % ws.sum = y at *
  generalize geti lots k = x at *
  generalize ws.sum = sm at *
  rw [fr_drP, show fr 0 = _ from q0, show fr 1 = _ from q1, show fr 11 = _ from q11, show fr 12 = _ from q12, show fr 13 = _ from q13, show fr 15 = _ from q15, show fr 37 = _ from q37, show fr 38 = _ from q38, show fr 39 = _ from q39]
  clear q0 q1 q11 q12 q13 q15 q37 q38 q39
  conv => arg 2; whnf
  go_wp2_with fail
  refine (HD.out w HR.out).mono ?_
  rintro e w1 ⟨rfl, rfl⟩
  go_wp2_with fail
  refine HF.out.mono ?_
  rintro e w1 ⟨rfl, rfl⟩
  go_wp2_with fail
  refine Met.intro (hS _ _ ?_)
  exact ⟨v13, ⟨hk0, hk1⟩, hW, Fr.of _ rfl ⟨rfl, rfl, rfl, rfl, rfl, rfl, rfl, rfl, rfl, trivial⟩⟩

set_option maxRecDepth 100000 in
set_option maxHeartbeats 1000000 in
theorem dr14 (w0 : World) (vt vw vl : Value) (ts : List ByteArray) (ws lots : List Int) (h : DH w0 vt vw vl ts ws lots) (d : DG ts ws lots) (v12 : Value) (k : Int) : T3 Try.prog (fun a w => ∃ (v13 : Value), (0 ≤ k ∧ k < lots.length) ∧ (Dr w0 ts.length ts v12 v13 (HT ts ws lots k) (HT ts ws lots k) w) ∧ Fr 79 [(0, vt), (1, vw), (11, .int .i64 ws.sum), (12, v12), (13, v13), (16, .int .i64 (nxt ts.length (HT ts ws lots k) (drawnF ws (geti lots k % ws.sum)) : Nat)), (37, vl), (38, .int .i64 lots.length), (39, .int .i64 k)] a) (sel [1, 1, 1, 1, 1, 1, 0, 1, 4, 4, 1, 1, 0, 4, 1, 1, 0] drP) (fun a w => ∃ (v13 : Value), (0 ≤ k ∧ k < lots.length) ∧ (Dr w0 ts.length ts v12 v13 (HT ts ws lots (k + 1)) (HT ts ws lots k) w) ∧ Fr 79 [(0, vt), (1, vw), (11, .int .i64 ws.sum), (12, v12), (13, v13), (16, .int .i64 (nxt ts.length (HT ts ws lots k) (drawnF ws (geti lots k % ws.sum)) : Nat)), (37, vl), (38, .int .i64 lots.length), (39, .int .i64 k)] a) No 9 No := by
  refine T3.leaf ?_
  rintro Q JS JX JT K hS hK hX hE hT hR a w ⟨v13, hpre, hW, ⟨fr, rfl, q0, q1, q11, q12, q13, q16, q37, q38, q39, _⟩⟩
  obtain ⟨hk0, hk1⟩ := hpre
  have hlen := HT_len ts ws lots k hk0 (by omega)
  have hle := d.le
  have hn1 := d.g.n1
  have hnx := (nxt_free (d.have k hk0 (by omega)) (by omega) (d.drawn (geti lots k))).2
  have Hs := Lib.hid (HT_succ ts ws lots k hk0 hk1)
  obtain ⟨g, c, hv12⟩ := hW.blk (by omega)
  subst hv12
  obtain ⟨hc, hf⟩ := hW.cell _ hnx
  have HS := Lib.hid (hW.store hnx)
  clear hW
  generalize nxt ts.length (HT ts ws lots k) (drawnF ws (geti lots k % ws.sum)) = nx at *
  have hnn : (nx : Int).toNat = nx := by omega
  rw [fr_drP, show fr 0 = _ from q0, show fr 1 = _ from q1, show fr 11 = _ from q11, show fr 12 = _ from q12, show fr 13 = _ from q13, show fr 16 = _ from q16, show fr 37 = _ from q37, show fr 38 = _ from q38, show fr 39 = _ from q39]
  clear q0 q1 q11 q12 q13 q16 q37 q38 q39
  conv => arg 2; whnf
  go_wp2_with fail
  refine Met.intro (hS _ _ ?_)
  exact ⟨v13, ⟨hk0, hk1⟩, (by rw [Hs.out]; exact HS.out), Fr.of _ rfl ⟨rfl, rfl, rfl, rfl, rfl, rfl, rfl, rfl, rfl, trivial⟩⟩

set_option maxRecDepth 100000 in
set_option maxHeartbeats 1000000 in
theorem dr15 (w0 : World) (vt vw vl : Value) (ts : List ByteArray) (ws lots : List Int) (h : DH w0 vt vw vl ts ws lots) (d : DG ts ws lots) (v12 : Value) (k : Int) : T3 Try.prog (fun a w => ∃ (v13 : Value), (0 ≤ k ∧ k < lots.length) ∧ (Dr w0 ts.length ts v12 v13 (HT ts ws lots (k + 1)) (HT ts ws lots k) w) ∧ Fr 79 [(0, vt), (1, vw), (11, .int .i64 ws.sum), (12, v12), (13, v13), (16, .int .i64 (nxt ts.length (HT ts ws lots k) (drawnF ws (geti lots k % ws.sum)) : Nat)), (37, vl), (38, .int .i64 lots.length), (39, .int .i64 k)] a) (sel [1, 1, 1, 1, 1, 1, 0, 1, 4, 4, 1, 1, 0, 4, 1, 1, 1] drP) (fun a w => ∃ (v13 : Value), (0 ≤ k ∧ k < lots.length) ∧ (Dr w0 ts.length ts v12 v13 (HT ts ws lots (k + 1)) (HT ts ws lots (k + 1)) w) ∧ Fr 79 [(0, vt), (1, vw), (11, .int .i64 ws.sum), (12, v12), (13, v13), (37, vl), (38, .int .i64 lots.length), (39, .int .i64 k)] a) No 9 No := by
  refine T3.leaf ?_
  rintro Q JS JX JT K hS hK hX hE hT hR a w ⟨v13, hpre, hW, ⟨fr, rfl, q0, q1, q11, q12, q13, q16, q37, q38, q39, _⟩⟩
  obtain ⟨hk0, hk1⟩ := hpre
  have hlen := HT_len ts ws lots k hk0 (by omega)
  have hle := d.le
  have hn1 := d.g.n1
  have hnx := (nxt_free (d.have k hk0 (by omega)) (by omega) (d.drawn (geti lots k))).2
  have Hs := Lib.hid (HT_succ ts ws lots k hk0 hk1)
  obtain ⟨_, hcs⟩ := (h.h.t.below hW.bel).els encSt_length (by decide)
  rcases hcs with ⟨rfl, h0⟩ | ⟨bz, off, cap, rfl, _, hbz, hnc, hcm, hcell⟩
  · omega
  have t0 := hcell (nxt ts.length (HT ts ws lots k) (drawnF ws (geti lots k % ws.sum)) : Nat) (by omega) (by omega) 0 _ rfl
  rw [Nat.mul_one, Nat.add_zero, Int.toNat_natCast] at t0
  clear hcell
  obtain ⟨p9, c9, hv9⟩ := (Row.of_owns hW.out).shape
  subst hv9
  have hE := el_strs
  have hln := h.ln
  have hbs := hW.bel.size
  have HA := Lib.hid (fun w' v' => Dr.app (w' := w') (v' := v') (j := nxt ts.length (HT ts ws lots k) (drawnF ws (geti lots k % ws.sum))) (hW.alloc (.cells #[.string (geta ts (nxt ts.length (HT ts ws lots k) (drawnF ws (geti lots k % ws.sum)) : Nat))] 9)))
  generalize hHH : HT ts ws lots (k + 1) = HH at *
  generalize hHK : HT ts ws lots k = HK0 at *
  generalize nxt ts.length HK0 (drawnF ws (geti lots k % ws.sum)) = nx at *
  generalize geta ts (nx : Int) = nm at *
  have HH1 := Lib.hid hHH
  have HH2 := Lib.hid hHK
  clear hHH hHK
  rw [fr_drP, show fr 0 = _ from q0, show fr 1 = _ from q1, show fr 11 = _ from q11, show fr 12 = _ from q12, show fr 13 = _ from q13, show fr 16 = _ from q16, show fr 37 = _ from q37, show fr 38 = _ from q38, show fr 39 = _ from q39]
  clear q0 q1 q11 q12 q13 q16 q37 q38 q39
  conv => arg 2; whnf
  go_wp2_with (at_builtin; refine app_law rfl _ _ _ rfl hE (hW.out.alloc _) rfl [.string nm] rfl rfl (cells_new w #[_] _) (by simp [Value.oneCell']) (by omega) (by simp; omega) ?_; intro v' w3 hown3 hgr)
  refine Met.intro (hS _ _ ?_)
  have := HA.out w3 v' hown3 hgr
  rw [← Hs.out] at this
  exact ⟨v', ⟨hk0, hk1⟩, this, Fr.of _ rfl ⟨rfl, rfl, rfl, rfl, rfl, rfl, rfl, rfl, trivial⟩⟩

end Go.Proofs.Ytkdimgghljklmaa
/-
  Lots: how great the counts get. No condition on a program.
-/
set_option linter.unusedVariables false
namespace Go.Bw
theorem sumN_le {n : Nat} {f g : Nat → Int} (h : ∀ i, i < n → f i ≤ g i) : sumN n f ≤ sumN n g := by
  induction n with
  | zero => exact Int.le_refl _
  | succ n ih =>
    rw [sumN_succ, sumN_succ]
    have := ih fun i hi => h i (by omega)
    have := h n (by omega)
    omega
theorem sumN_nonneg {n : Nat} {f : Nat → Int} (h : ∀ i, i < n → 0 ≤ f i) : 0 ≤ sumN n f := by
  have := sumN_le (f := fun _ => 0) h
  rwa [sumN_const_zero] at this
theorem gets_nonneg {ws : Nat → Int} {n : Nat} {h : List Nat} (hw : ∀ i, i < n → 0 ≤ ws i) (j : Nat) : 0 ≤ getsF ws n h j :=
  sumN_nonneg fun i hi => by split <;> first | exact hw i hi | exact Int.le_refl _
theorem gets_sum {ws : Nat → Int} {n : Nat} {h : List Nat} (hh : Have n h) (hl : h.length < n) : sumN n (getsF ws n h) = sumN n ws := by
  have := sumN_gather (n := n) (m := n) ws (nxt n h) (fun i hi => (nxt_free hh hl hi).2) (fun _ => 1)
  simp only [Int.mul_one] at this
  exact this.symm
theorem gets_free {ws : Nat → Int} {n : Nat} {h : List Nat} (hh : Have n h) (hl : h.length < n) {j : Nat} (h0 : getsF ws n h j ≠ 0) : h.contains j = false := by
  refine Classical.byContradiction fun hc => h0 ?_
  unfold getsF
  refine (sumN_congr (g := fun _ => 0) fun i hi => if_neg fun e => hc ?_).trans (sumN_const_zero n)
  rw [← e]
  exact (nxt_free hh hl hi).1
theorem wayF_bound {ws : Nat → Int} {n place who : Nat} {B : Int} (hw : ∀ i, i < n → 0 ≤ ws i) (hs : sumN n ws ≤ B) (hB : 1 ≤ B) :
    ∀ (m : Nat) (h : List Nat), Have n h → h.length + m ≤ n → 0 ≤ wayF ws n place who m h ∧ wayF ws n place who m h ≤ B ^ m
  | 0, h, _, _ => by
    unfold wayF othersF
    rw [Int.pow_zero]
    split
    · omega
    · split <;> omega
  | m + 1, h, hh, hl => by
    have hP : 0 ≤ B ^ m := Int.pow_nonneg (by omega)
    have hterm : ∀ j, j < n → 0 ≤ (if getsF ws n h j = 0 ∨ ¬(j = who ↔ h.length = place) then 0 else getsF ws n h j * wayF ws n place who m (h ++ [j])) ∧
        (if getsF ws n h j = 0 ∨ ¬(j = who ↔ h.length = place) then 0 else getsF ws n h j * wayF ws n place who m (h ++ [j])) ≤ getsF ws n h j * B ^ m := fun j hj => by
      have hg := gets_nonneg (h := h) hw j
      split
      · exact ⟨Int.le_refl _, Int.mul_nonneg hg hP⟩
      · rename_i hc
        have h0 : getsF ws n h j ≠ 0 := fun e => hc (.inl e)
        have ih := wayF_bound (place := place) (who := who) hw hs hB m (h ++ [j]) (hh.snoc hj (gets_free hh (by omega) h0)) (by simp; omega)
        exact ⟨Int.mul_nonneg hg ih.1, Int.mul_le_mul_of_nonneg_left ih.2 hg⟩
    unfold wayF
    refine ⟨sumN_nonneg fun j hj => (hterm j hj).1, Int.le_trans (sumN_le fun j hj => (hterm j hj).2) ?_⟩
    rw [sumN_mul, gets_sum hh (by omega), Int.pow_succ, Int.mul_comm (B ^ m) B]
    exact Int.mul_le_mul_of_nonneg_right hs hP
end Go.Bw
/-
  Lots: in how many ways places are given out, the program's count: what holds on the way; the first loop. Conditions: right weights.
-/
set_option linter.unusedVariables false
namespace Go.Proofs.Ytkdimgghljklmaa
open Go.RowKit Go.Bw
/-- What is fixed. -/
structure WF (n : Nat) (ws : List Int) (who place top : Nat) : Prop where
  len : ws.length = n
  lo : ∀ x ∈ ws, 1 ≤ x ∧ x ≤ 1000
  n1 : 1 ≤ n
  n14 : n ≤ 14
  hw : who < n
  hp : place < n
  ht : top ≤ 4
  tn : top ≤ n
/-- The lottery in memory, at the list h of who has a place; w0: the world of the call. -/
structure Wy (w0 : World) (gl bt : Nat) (vw vtk : Value) (n : Nat) (ws : List Int) (who place top : Nat) (h : List Nat) (w : World) : Prop where
  c0 : w.cell? ⟨gl, 0, none⟩ = some vw
  c1 : w.cell? ⟨gl, 1, none⟩ = some (.int .i64 who)
  c2 : w.cell? ⟨gl, 2, none⟩ = some (.int .i64 place)
  c3 : w.cell? ⟨gl, 3, none⟩ = some (.int .i64 top)
  c4 : w.cell? ⟨gl, 4, none⟩ = some vtk
  wr : Row w 0 1 vw n (ws.map (.int .i64))
  tk : w.ownsRow bt 4 1 vtk n (takenC n h)
  gr : w0.grownBy w vtk.ownBlock
  ng : vtk.ownBlock ≠ some gl
  nw : ∀ k, vw.ownBlock = some k → vtk.ownBlock ≠ some k
  bt0 : bt ≤ w0.heap.size
section
variable {w0 w w' : World} {gl bt n who place top : Nat} {vw vtk : Value} {ws : List Int} {h : List Nat}
theorem Wy.below (l : Wy w0 gl bt vw vtk n ws who place top h w) (b : Below w.heap.size w w') : Wy w0 gl bt vw vtk n ws who place top h w' := by
  have hl := World.block_lt_of_cell? w _ l.c0
  exact ⟨(b.cell (p := ⟨gl, 0, none⟩) hl).trans l.c0, (b.cell (p := ⟨gl, 1, none⟩) hl).trans l.c1, (b.cell (p := ⟨gl, 2, none⟩) hl).trans l.c2, (b.cell (p := ⟨gl, 3, none⟩) hl).trans l.c3, (b.cell (p := ⟨gl, 4, none⟩) hl).trans l.c4, l.wr.below b, owns_below l.tk b (Nat.le_refl _), grown_trans l.gr (grown_of_below b), l.ng, l.nw, l.bt0⟩
theorem Wy.alloc (l : Wy w0 gl bt vw vtk n ws who place top h w) (o : Obj) : Wy w0 gl bt vw vtk n ws who place top h (w.alloc o) := l.below ((Below.refl _ _).alloc (Nat.le_refl _) o)
/-- Another world of the call: only the row of who has a place has turned, and there is more memory. -/
theorem Wy.grow (l : Wy w0 gl bt vw vtk n ws who place top h w) {h' : List Nat} (g : w.grownBy w' vtk.ownBlock) (ht : w'.ownsRow bt 4 1 vtk n (takenC n h')) : Wy w0 gl bt vw vtk n ws who place top h' w' := by
  have hl := World.block_lt_of_cell? w _ l.c0
  have hb := g.block gl hl (fun e => l.ng e.symm)
  refine ⟨(World.cell?_of_block (a := ⟨gl, 0, none⟩) hb).trans l.c0, (World.cell?_of_block (a := ⟨gl, 1, none⟩) hb).trans l.c1, (World.cell?_of_block (a := ⟨gl, 2, none⟩) hb).trans l.c2, (World.cell?_of_block (a := ⟨gl, 3, none⟩) hb).trans l.c3, (World.cell?_of_block (a := ⟨gl, 4, none⟩) hb).trans l.c4, ?_, ht, grown_trans l.gr g, l.ng, l.nw, l.bt0⟩
  refine l.wr.swap (fun k hk => ?_) g.size
  have hk2 : k < w.heap.size := by
    rcases l.wr.2 with ⟨rfl, _⟩ | ⟨b, off, cap, rfl, _, hlt, _⟩
    · cases hk
    · cases hk; exact hlt
  exact g.block k hk2 (fun e => l.nw k hk e.symm)
/-- A store into another own row. -/
theorem Wy.other (l : Wy w0 gl bt vw vtk n ws who place top h w) {g : Nat} (hg : w0.heap.size ≤ g) (hgl : gl < w0.heap.size) (hwv : ∀ k, vw.ownBlock = some k → k < w0.heap.size) (htv : ∀ k, vtk.ownBlock = some k → k < w0.heap.size) (j : Nat) (u : Value) :
    Wy w0 gl bt vw vtk n ws who place top h (w.setCell ⟨g, j, none⟩ u) := by
  have gr := grown_setCell w g j u
  have hl := World.block_lt_of_cell? w _ l.c0
  have hb := gr.block gl hl (by simp; omega)
  refine ⟨(World.cell?_of_block (a := ⟨gl, 0, none⟩) hb).trans l.c0, (World.cell?_of_block (a := ⟨gl, 1, none⟩) hb).trans l.c1, (World.cell?_of_block (a := ⟨gl, 2, none⟩) hb).trans l.c2, (World.cell?_of_block (a := ⟨gl, 3, none⟩) hb).trans l.c3, (World.cell?_of_block (a := ⟨gl, 4, none⟩) hb).trans l.c4, ?_, ?_, ?_, l.ng, l.nw, l.bt0⟩
  · refine l.wr.swap (fun k hk => ?_) gr.size
    have hk2 : k < w.heap.size := by
      rcases l.wr.2 with ⟨rfl, _⟩ | ⟨b, off, cap, rfl, _, hlt, _⟩
      · cases hk
      · cases hk; exact hlt
    exact gr.block k hk2 (by have := hwv k hk; simp; omega)
  · by_cases hn : vtk.ownBlock = none
    · exact l.tk.kept (row := some g) gr (.inl hn)
    · exact l.tk.kept gr (.inr (fun e => by have := htv g e; omega))
  · refine ⟨gr.os.trans l.gr.os, gr.tape.trans l.gr.tape, gr.output.trans l.gr.output, Nat.le_trans l.gr.size gr.size, fun k hk hne => ?_⟩
    rw [gr.block k (Nat.lt_of_lt_of_le hk l.gr.size) (by simp; omega)]
    exact l.gr.block k hk hne
end
end Go.Proofs.Ytkdimgghljklmaa
/-
  Lots: the program's count of ways: the loop that gathers. Conditions: right weights.
-/
set_option linter.unusedVariables false
namespace Go.Proofs.Ytkdimgghljklmaa
open Go.RowKit Go.Bw
noncomputable def wyP : Code := (Try.f44.body).getD .skip
set_option maxRecDepth 100000 in
theorem fr_wyP (f : Nat → Value) : frame 94 f = ⟨#[f 0, f 1, f 2, f 3, f 4, f 5, f 6, f 7, f 8, f 9, f 10, f 11, f 12, f 13, f 14, f 15, f 16, f 17, f 18, f 19, f 20, f 21, f 22, f 23, f 24, f 25, f 26, f 27, f 28, f 29, f 30, f 31, f 32, f 33, f 34, f 35, f 36, f 37, f 38, f 39, f 40, f 41, f 42, f 43, f 44, f 45, f 46, f 47, f 48, f 49, f 50, f 51, f 52, f 53, f 54, f 55, f 56, f 57, f 58, f 59, f 60, f 61, f 62, f 63, f 64, f 65, f 66, f 67, f 68, f 69, f 70, f 71, f 72, f 73, f 74, f 75, f 76, f 77, f 78, f 79, f 80, f 81, f 82, f 83, f 84, f 85, f 86, f 87, f 88, f 89, f 90, f 91, f 92, f 93], []⟩ := by rfl
/-- By how many of the first k each one gets the place. -/
def getsL (ws : List Int) (n : Nat) (h : List Nat) (k : Nat) : List Int := (List.range n).map fun j => sumN k fun i => if nxt n h i = j then geti ws (i : Int) else 0
theorem getsL_length (ws : List Int) (n : Nat) (h : List Nat) (k : Nat) : (getsL ws n h k).length = n := by simp [getsL]
theorem getsL_zero (ws : List Int) (n : Nat) (h : List Nat) : getsL ws n h 0 = List.replicate n 0 := by
  apply List.ext_getElem
  · simp [getsL]
  · intro i h1 h2
    simp [getsL, sumN_zero]
theorem getsL_at (ws : List Int) (n : Nat) (h : List Nat) (k : Nat) (j : Int) (h0 : 0 ≤ j) (h1 : j < n) : geti (getsL ws n h k) j = sumN k fun i => if nxt n h i = j.toNat then geti ws (i : Int) else 0 := by
  simp [geti, getsL, show j.toNat < n by omega]
theorem getsL_set (ws : List Int) (n : Nat) (h : List Nat) (k : Nat) (hj : nxt n h k < n) : (getsL ws n h k).set (nxt n h k) (geti (getsL ws n h k) (nxt n h k : Nat) + geti ws (k : Int)) = getsL ws n h (k + 1) := by
  have e := getsL_at ws n h k (nxt n h k : Nat) (by omega) (by omega)
  generalize geti (getsL ws n h k) (nxt n h k : Nat) = v at *
  apply List.ext_getElem
  · simp [getsL]
  · intro i h1 h2
    have hi : i < n := by simp [getsL] at h2; exact h2
    by_cases hij : nxt n h k = i
    · subst hij
      simp only [List.getElem_set_self]
      rw [e]
      simp [getsL, sumN_succ]
    · rw [List.getElem_set_ne hij]
      simp [getsL, sumN_succ, hij]
theorem getsL_all (ws : List Int) (n : Nat) (h : List Nat) (j : Nat) (hj : j < n) : geti (getsL ws n h n) (j : Int) = getsF (fun i => geti ws (i : Int)) n h j := by
  rw [getsL_at _ _ _ _ _ (by omega) (by omega)]
  simp [getsF]
theorem getsL_bound {ws : List Int} {n : Nat} {h : List Nat} (hl : ws.length = n) (hw : ∀ x ∈ ws, 1 ≤ x ∧ x ≤ 1000) : ∀ (k : Nat), k ≤ n → ∀ j : Int, 0 ≤ j → j < n → 0 ≤ geti (getsL ws n h k) j ∧ geti (getsL ws n h k) j ≤ 1000 * k := by
  intro k
  induction k with
  | zero => intro _ j h0 h1; rw [getsL_at _ _ _ _ _ h0 h1, sumN_zero]; omega
  | succ k ih =>
    intro hk j h0 h1
    have := ih (by omega) j h0 h1
    rw [getsL_at _ _ _ _ _ h0 h1] at this ⊢
    rw [sumN_succ]
    have hg := geti_lo hw (k := (k : Int)) (by omega) (by omega)
    split <;> omega
end Go.Proofs.Ytkdimgghljklmaa
/-
  Lots: the program's count of ways: the walk of the loop that gathers. Conditions: right weights.
-/
set_option linter.unusedVariables false
namespace Go.Proofs.Ytkdimgghljklmaa
open Go.RowKit Go.Bw
/-- What is known of a call that goes on. -/
structure Wc (w0 : World) (gl bt : Nat) (vw vtk : Value) (nt : Nat) (ws : List Int) (who place top : Nat) (h : List Nat) : Prop where
  f : WF nt ws who place top
  hh : Have nt h
  hl : h.length < top
  gl0 : gl < w0.heap.size
  wv : ∀ k, vw.ownBlock = some k → k < w0.heap.size
  tv : ∀ k, vtk.ownBlock = some k → k < w0.heap.size
set_option maxRecDepth 100000 in
set_option maxHeartbeats 1000000 in
theorem wy3 (w0 : World) (gl bt : Nat) (vw vtk : Value) (nt : Nat) (ws : List Int) (who place top : Nat) (h : List Nat) (c : Wc w0 gl bt vw vtk nt ws who place top h) : T3 Try.prog (fun a w => (Wy w0 gl bt vw vtk nt ws who place top h w) ∧ Fr 94 [(0, .pointer (some ⟨gl, 0, none⟩)), (1, .int .i64 h.length)] a) (sel [1, 1, 0] wyP) (fun a w => ∃ (v5 : Value), (Wy w0 gl bt vw vtk nt ws who place top h w ∧ w.ownsRow w0.heap.size 3 1 v5 nt ((getsL ws nt h 0).map (.int .i64))) ∧ Fr 94 [(0, .pointer (some ⟨gl, 0, none⟩)), (1, .int .i64 h.length), (5, v5)] a) No 9 No := by
  refine T3.leaf ?_
  rintro Q JS JX JT K hS hK hX hE hT hR a w ⟨hW, ⟨fr, rfl, q0, q1, _⟩⟩
  have x0 := hW.c0
  have f := c.f
  have n14 := f.n14
  have n1 := f.n1
  obtain ⟨p1, c1, hv1⟩ := hW.wr.shape
  subst hv1
  have hmk := mk_ints nt (by omega)
  have ho := owns_made w w0.heap.size 3 (.int .i64 0) nt (by omega) hW.gr.size
  have hz : (getsL ws nt h 0).map (Value.int .i64) = List.replicate nt (Value.int .i64 0) := by rw [getsL_zero]; simp
  have HO := Lib.hid ho
  have HZ := Lib.hid hz
  clear ho hz
  rw [fr_wyP, show fr 0 = _ from q0, show fr 1 = _ from q1]
  clear q0 q1
  conv => arg 2; whnf
  go_wp2_with fail
  refine Met.intro (hS _ _ ?_)
  exact ⟨_, ⟨hW.alloc _, (by rw [HZ.out]; exact HO.out)⟩, Fr.of _ rfl ⟨rfl, rfl, rfl, trivial⟩⟩

set_option maxRecDepth 100000 in
set_option maxHeartbeats 1000000 in
theorem wy4 (w0 : World) (gl bt : Nat) (vw vtk : Value) (nt : Nat) (ws : List Int) (who place top : Nat) (h : List Nat) (c : Wc w0 gl bt vw vtk nt ws who place top h) : T3 Try.prog (fun a w => ∃ (v5 : Value), (Wy w0 gl bt vw vtk nt ws who place top h w ∧ w.ownsRow w0.heap.size 3 1 v5 nt ((getsL ws nt h 0).map (.int .i64))) ∧ Fr 94 [(0, .pointer (some ⟨gl, 0, none⟩)), (1, .int .i64 h.length), (5, v5)] a) (sel [1, 1, 1, 0, 0] wyP) (fun a w => (0 ≤ (0 : Int) ∧ (0 : Int) ≤ nt) ∧ ∃ (v5 : Value), (Wy w0 gl bt vw vtk nt ws who place top h w ∧ w.ownsRow w0.heap.size 3 1 v5 nt ((getsL ws nt h (0 : Int).toNat).map (.int .i64))) ∧ Fr 94 [(0, .pointer (some ⟨gl, 0, none⟩)), (1, .int .i64 h.length), (5, v5), (28, vw), (29, .int .i64 nt), (30, .int .i64 0)] a) No 9 No := by
  refine T3.leaf ?_
  rintro Q JS JX JT K hS hK hX hE hT hR a w ⟨v5, ⟨hW, hO⟩, ⟨fr, rfl, q0, q1, q5, _⟩⟩
  have x0 := hW.c0
  have f := c.f
  have n14 := f.n14
  have n1 := f.n1
  obtain ⟨p1, c1, hv1⟩ := hW.wr.shape
  subst hv1
  rw [fr_wyP, show fr 0 = _ from q0, show fr 1 = _ from q1, show fr 5 = _ from q5]
  clear q0 q1 q5
  conv => arg 2; whnf
  go_wp2_with fail
  refine Met.intro (hS _ _ ?_)
  exact ⟨⟨by omega, by omega⟩, _, ⟨hW, hO⟩, Fr.of _ rfl ⟨rfl, rfl, rfl, rfl, rfl, rfl, trivial⟩⟩

set_option maxRecDepth 100000 in
set_option maxHeartbeats 1000000 in
theorem wy6 (w0 : World) (gl bt : Nat) (vw vtk : Value) (nt : Nat) (ws : List Int) (who place top : Nat) (h : List Nat) (c : Wc w0 gl bt vw vtk nt ws who place top h) (k : Int) : T3 Try.prog (fun a w => ∃ (v5 : Value), (0 ≤ k ∧ k < nt) ∧ (Wy w0 gl bt vw vtk nt ws who place top h w ∧ w.ownsRow w0.heap.size 3 1 v5 nt ((getsL ws nt h (k : Int).toNat).map (.int .i64))) ∧ Fr 94 [(0, .pointer (some ⟨gl, 0, none⟩)), (1, .int .i64 h.length), (5, v5), (28, vw), (29, .int .i64 nt), (30, .int .i64 k)] a) (sel [1, 1, 1, 0, 1, 4, 4, 1, 1, 0, 4, 0] wyP) (fun a w => ∃ (v5 : Value), (0 ≤ k ∧ k < nt) ∧ (Wy w0 gl bt vw vtk nt ws who place top h w ∧ w.ownsRow w0.heap.size 3 1 v5 nt ((getsL ws nt h (k : Int).toNat).map (.int .i64))) ∧ Fr 94 [(0, .pointer (some ⟨gl, 0, none⟩)), (1, .int .i64 h.length), (5, v5), (6, .int .i64 k), (7, .int .i64 (geti ws k)), (28, vw), (29, .int .i64 nt), (30, .int .i64 k)] a) No 9 No := by
  refine T3.leaf ?_
  rintro Q JS JX JT K hS hK hX hE hT hR a w ⟨v5, hpre, ⟨hW, hO⟩, ⟨fr, rfl, q0, q1, q5, q28, q29, q30, _⟩⟩
  obtain ⟨hk0, hk1⟩ := hpre
  have n14 := c.f.n14
  obtain ⟨_, hcs⟩ := hW.wr.ints
  rcases hcs with ⟨rfl, h0⟩ | ⟨bz, off, cap, rfl, _, hbz, hnc, hcm, hcell⟩
  · omega
  have t0 := hcell k hk0 hk1
  clear hcell
  rw [fr_wyP, show fr 0 = _ from q0, show fr 1 = _ from q1, show fr 5 = _ from q5, show fr 28 = _ from q28, show fr 29 = _ from q29, show fr 30 = _ from q30]
  clear q0 q1 q5 q28 q29 q30
  conv => arg 2; whnf
  go_wp2_with fail
  refine Met.intro (hS _ _ ?_)
  exact ⟨v5, ⟨hk0, hk1⟩, ⟨hW, hO⟩, Fr.of _ rfl ⟨rfl, rfl, rfl, rfl, rfl, rfl, rfl, rfl, trivial⟩⟩

theorem ints_frozen {w : World} {base e n g cap : Nat} {xs : List Value} (h : w.ownsRow base e 1 (.slice (some ⟨g, 0, none⟩) n cap) n xs) (i : Nat) : w.frozen? ⟨g, i, none⟩ = false := by
  rcases h.2 with ⟨h2, _⟩ | ⟨g', cap', cur, hv, hb, hg, hn, hc, hs, ht⟩
  · cases h2
  · simp only [Value.slice.injEq, Option.some.injEq, Addr.mk.injEq] at hv
    obtain ⟨⟨rfl, _⟩, _, rfl⟩ := hv
    unfold World.frozen?
    rw [hg]
    simp
set_option maxRecDepth 100000 in
set_option maxHeartbeats 1000000 in
theorem wy7 (w0 : World) (gl bt : Nat) (vw vtk : Value) (nt : Nat) (ws : List Int) (who place top : Nat) (h : List Nat) (c : Wc w0 gl bt vw vtk nt ws who place top h) (k : Int) : T3 Try.prog (fun a w => ∃ (v5 : Value), (0 ≤ k ∧ k < nt) ∧ (Wy w0 gl bt vw vtk nt ws who place top h w ∧ w.ownsRow w0.heap.size 3 1 v5 nt ((getsL ws nt h (k : Int).toNat).map (.int .i64))) ∧ Fr 94 [(0, .pointer (some ⟨gl, 0, none⟩)), (1, .int .i64 h.length), (5, v5), (6, .int .i64 k), (7, .int .i64 (geti ws k)), (28, vw), (29, .int .i64 nt), (30, .int .i64 k)] a) (sel [1, 1, 1, 0, 1, 4, 4, 1, 1, 0, 4, 1] wyP) (fun a w => ∃ (v5 : Value), (0 ≤ k ∧ k < nt) ∧ (Wy w0 gl bt vw vtk nt ws who place top h w ∧ w.ownsRow w0.heap.size 3 1 v5 nt ((getsL ws nt h ((k + 1) : Int).toNat).map (.int .i64))) ∧ Fr 94 [(0, .pointer (some ⟨gl, 0, none⟩)), (1, .int .i64 h.length), (5, v5), (28, vw), (29, .int .i64 nt), (30, .int .i64 k)] a) No 9 No := by
  refine T3.leaf ?_
  rintro Q JS JX JT K hS hK hX hE hT hR a w ⟨v5, hpre, ⟨hW, hO⟩, ⟨fr, rfl, q0, q1, q5, q6, q7, q28, q29, q30, _⟩⟩
  have hpp := Lib.hid hpre
  obtain ⟨hk0, hk1⟩ := hpre
  have x4 := hW.c4
  have n14 := c.f.n14
  have hlt : h.length < nt := by have := c.hl; have := c.f.tn; omega
  have hi : k.toNat < nt := by omega
  have hnx := (nxt_free c.hh hlt hi).2
  have HF := free_prog w vtk nt h k.toNat bt (Row.of_owns hW.tk) (by omega) c.hh hlt hi
  have hkk : ((k.toNat : Nat) : Int) = k := by omega
  rw [hkk] at HF
  have HF2 := Lib.hid HF
  clear HF
  obtain ⟨g5, c5, hv5, hg5, _⟩ := owns_shape hO (by omega)
  subst hv5
  have hc := ints_of_owns hO (nxt nt h k.toNat : Nat) (by omega) (by have := getsL_length ws nt h k.toNat; omega)
  have hfz := ints_frozen hO (nxt nt h k.toNat)
  have hgb := getsL_bound c.f.len c.f.lo (h := h) k.toNat (by omega) (nxt nt h k.toNat : Nat) (by omega) (by omega)
  have hwk := geti_lo c.f.lo hk0 (by rw [c.f.len]; exact hk1)
  have hset := getsL_set ws nt h k.toNat hnx
  rw [hkk] at hset
  have HO := Lib.hid (owns_set hO (nxt nt h k.toNat) hnx (geti (getsL ws nt h k.toNat) (nxt nt h k.toNat : Nat) + geti ws k))
  rw [hset] at HO
  have HW := Lib.hid (hW.other hg5 c.gl0 c.wv c.tv (nxt nt h k.toNat) (.int .i64 (geti (getsL ws nt h k.toNat) (nxt nt h k.toNat : Nat) + geti ws k)))
  have hk1n : (k + 1).toNat = k.toNat + 1 := by omega
  have HK1 := Lib.hid hk1n
  obtain ⟨p9, c9, hv9⟩ := (Row.of_owns hW.tk).shape
  subst hv9
  rw [Int.toNat_natCast] at hc
  clear hset hk1n hkk hO hW
  generalize geti (getsL ws nt h k.toNat) (nxt nt h k.toNat : Nat) = old at *
  generalize geti ws k = wk at *
  generalize nxt nt h k.toNat = nx at *
  rw [fr_wyP, show fr 0 = _ from q0, show fr 1 = _ from q1, show fr 5 = _ from q5, show fr 6 = _ from q6, show fr 7 = _ from q7, show fr 28 = _ from q28, show fr 29 = _ from q29, show fr 30 = _ from q30]
  clear q0 q1 q5 q6 q7 q28 q29 q30
  conv => arg 2; whnf
  go_wp2_with fail
  refine HF2.out.mono ?_
  rintro e w1 ⟨rfl, rfl⟩
  go_wp2_with fail
  refine Met.intro (hS _ _ ?_)
  exact ⟨_, hpp.out, ⟨HW.out, by rw [HK1.out]; exact HO.out⟩, Fr.of _ rfl ⟨rfl, rfl, rfl, rfl, rfl, rfl, trivial⟩⟩

end Go.Proofs.Ytkdimgghljklmaa
/-
  Lots: teams and weights that the stream hands out. Conditions: the bounds that each theorem names.
-/
set_option linter.unusedVariables false
namespace Go.Proofs.Ytkdimgghljklmaa
open Go.RowKit Go.Bw
theorem enc_sm (k : Int) (h0 : 0 ≤ k) (h1 : k < 6) : (Utf8.encode (102 - k)).size ≤ 4 := by
  have : k = 0 ∨ k = 1 ∨ k = 2 ∨ k = 3 ∨ k = 4 ∨ k = 5 := by omega
  rcases this with rfl | rfl | rfl | rfl | rfl | rfl <;> decide
/-- What is made so far. -/
structure Lo (n₀ : Nat) (w0 : World) (b : Nat) (v4 v5 : Value) (ts : List ByteArray) (ws : List Int) (w : World) : Prop where
  d : Drawn n₀ w0 w b
  n0 : n₀ < w0.heap.size
  rt : w.ownsRow w0.heap.size 9 1 v4 ts.length (cellsOf encSt ts)
  rw : w.ownsRow w0.heap.size 3 1 v5 ws.length (ws.map (.int .i64))
  sm : SmAll ts
section
variable {n₀ b b' : Nat} {w0 w w' : World} {v4 v5 v' : Value} {ts : List ByteArray} {ws : List Int}
theorem Lo.draw (h : Lo n₀ w0 b v4 v5 ts ws w) (d' : Drawn n₀ w w' b') : Lo n₀ w0 b' v4 v5 ts ws w' :=
  ⟨h.d.trans d', h.n0, owns_drawn h.rt d' h.n0, owns_drawn h.rw d' h.n0, h.sm⟩
theorem Lo.alloc (h : Lo n₀ w0 b v4 v5 ts ws w) (o : Obj) : Lo n₀ w0 b v4 v5 ts ws (w.alloc o) :=
  ⟨h.d.alloc o, h.n0, h.rt.alloc o, h.rw.alloc o, h.sm⟩
theorem Lo.appT (h : Lo n₀ w0 b v4 v5 ts ws w) {x : ByteArray} (hx : Sm x) (ho : w'.ownsRow w0.heap.size 9 1 v' (ts.length + 1) (cellsOf encSt ts ++ [.string x])) (g : w.grownBy w' v4.ownBlock) : Lo n₀ w0 b v' v5 (ts ++ [x]) ws w' :=
  ⟨h.d.app h.rt (Nat.le_refl _) h.n0 g, h.n0, by rw [cellsOf_snoc, List.length_append]; exact ho, own_app h.rw h.rt (by decide) g, h.sm.snoc hx⟩
theorem Lo.appW (h : Lo n₀ w0 b v4 v5 ts ws w) {x : Int} (ho : w'.ownsRow w0.heap.size 3 1 v' (ws.length + 1) (ws.map (.int .i64) ++ [.int .i64 x])) (g : w.grownBy w' v5.ownBlock) : Lo n₀ w0 b v4 v' ts (ws ++ [x]) w' :=
  ⟨h.d.app h.rw (Nat.le_refl _) h.n0 g, h.n0, own_app h.rt h.rw (by decide) g, by rw [List.map_append, List.length_append]; exact ho, h.sm⟩
theorem Lo.set {g c m : Nat} (h : Lo n₀ w0 b v4 (.slice (some ⟨g, 0, none⟩) m c) ts ws w) (hm : m = ws.length) (i : Nat) (hi : i < ws.length) (u : Int) : Lo n₀ w0 b v4 (.slice (some ⟨g, 0, none⟩) m c) ts (ws.set i u) (w.setCell ⟨g, i, none⟩ (.int .i64 u)) := by
  subst hm
  have gr := grown_setCell w g i (.int .i64 u)
  refine ⟨h.d.app h.rw (Nat.le_refl _) h.n0 gr, h.n0, own_app h.rt h.rw (by decide) gr, ?_, h.sm⟩
  rw [List.length_set]
  exact owns_set h.rw i hi u
theorem Lo.mono (h : Lo n₀ w0 b v4 v5 ts ws w) (hb : b ≤ b') : Lo n₀ w0 b' v4 v5 ts ws w := ⟨h.d.mono hb, h.n0, h.rt, h.rw, h.sm⟩
end
/-- The bounds on how many there are. -/
structure LoN (lo hi : Int) (ts : List ByteArray) (ws : List Int) : Prop where
  t : (ts.length : Int) ≤ hi
  w0 : lo ≤ (ws.length : Int)
  w1 : (ws.length : Int) ≤ hi
theorem el_strL : Elem Try.prog 26 9 (.string ByteArray.empty) 1 16 := ⟨by kernel_rfl, by kernel_rfl, by kernel_rfl, by decide, by decide⟩
theorem el_intL : Elem Try.prog 22 3 (.int .i64 0) 1 8 := ⟨by kernel_rfl, by kernel_rfl, by kernel_rfl, by decide, by decide⟩
noncomputable def loM : Code := (Try.f5.body).getD .skip
set_option maxRecDepth 100000 in
theorem fr_loM (f : Nat → Value) : frame 60 f = ⟨#[f 0, f 1, f 2, f 3, f 4, f 5, f 6, f 7, f 8, f 9, f 10, f 11, f 12, f 13, f 14, f 15, f 16, f 17, f 18, f 19, f 20, f 21, f 22, f 23, f 24, f 25, f 26, f 27, f 28, f 29, f 30, f 31, f 32, f 33, f 34, f 35, f 36, f 37, f 38, f 39, f 40, f 41, f 42, f 43, f 44, f 45, f 46, f 47, f 48, f 49, f 50, f 51, f 52, f 53, f 54, f 55, f 56, f 57, f 58, f 59], []⟩ := by rfl
set_option maxRecDepth 100000 in
set_option maxHeartbeats 1000000 in
theorem lo0 (n₀ b : Nat) (w0 : World) (hb : b ≤ 100000) : T3 Try.prog (fun a w => (Str n₀ w b ∧ IsW w0 w) ∧ Fr 60 [(0, .pointer (some ⟨n₀, 0, none⟩))] a) (sel [0] loM) (fun a w => (Str n₀ w b ∧ IsW w0 w) ∧ Fr 60 [(0, .pointer (some ⟨n₀, 0, none⟩))] a) No 9 No := by
  refine T3.leaf ?_
  rintro Q JS JX JT K hS hK hX hE hT hR a w ⟨hW, ⟨fr, rfl, q0, _⟩⟩
  rw [fr_loM, show fr 0 = _ from q0]
  clear q0
  conv => arg 2; whnf
  go_wp2_with fail
  refine Met.intro (hS _ _ ?_)
  exact ⟨hW, Fr.of _ rfl ⟨rfl, trivial⟩⟩

set_option maxRecDepth 100000 in
set_option maxHeartbeats 1000000 in
theorem lo1 (n₀ b : Nat) (w0 : World) (hb : b ≤ 100000) : T3 Try.prog (fun a w => (Str n₀ w b ∧ IsW w0 w) ∧ Fr 60 [(0, .pointer (some ⟨n₀, 0, none⟩))] a) (sel [1, 0] loM) (fun a w => (Str n₀ w b ∧ IsW w0 w) ∧ Fr 60 [(0, .pointer (some ⟨n₀, 0, none⟩)), (4, .slice none 0 0)] a) No 9 No := by
  refine T3.leaf ?_
  rintro Q JS JX JT K hS hK hX hE hT hR a w ⟨hW, ⟨fr, rfl, q0, _⟩⟩
  rw [fr_loM, show fr 0 = _ from q0]
  clear q0
  conv => arg 2; whnf
  go_wp2_with fail
  refine Met.intro (hS _ _ ?_)
  exact ⟨hW, Fr.of _ rfl ⟨rfl, rfl, trivial⟩⟩

set_option maxRecDepth 100000 in
set_option maxHeartbeats 1000000 in
theorem lo2 (n₀ b : Nat) (w0 : World) (hb : b ≤ 100000) : T3 Try.prog (fun a w => (Str n₀ w b ∧ IsW w0 w) ∧ Fr 60 [(0, .pointer (some ⟨n₀, 0, none⟩)), (4, .slice none 0 0)] a) (sel [1, 1, 0] loM) (fun a w => (Str n₀ w b ∧ IsW w0 w) ∧ Fr 60 [(0, .pointer (some ⟨n₀, 0, none⟩)), (4, .slice none 0 0), (5, .slice none 0 0)] a) No 9 No := by
  refine T3.leaf ?_
  rintro Q JS JX JT K hS hK hX hE hT hR a w ⟨hW, ⟨fr, rfl, q0, q4, _⟩⟩
  rw [fr_loM, show fr 0 = _ from q0, show fr 4 = _ from q4]
  clear q0 q4
  conv => arg 2; whnf
  go_wp2_with fail
  refine Met.intro (hS _ _ ?_)
  exact ⟨hW, Fr.of _ rfl ⟨rfl, rfl, rfl, trivial⟩⟩

set_option maxRecDepth 100000 in
set_option maxHeartbeats 1000000 in
theorem lo3 (n₀ b : Nat) (w0 : World) (hb : b ≤ 100000) : T3 Try.prog (fun a w => (Str n₀ w b ∧ IsW w0 w) ∧ Fr 60 [(0, .pointer (some ⟨n₀, 0, none⟩)), (4, .slice none 0 0), (5, .slice none 0 0)] a) (sel [1, 1, 1, 0, 0] loM) (fun a w => ∃ r : Int, (1 ≤ r ∧ r ≤ 6) ∧ ((0 ≤ (0 : Int) ∧ (0 : Int) ≤ r) ∧ ∃ (v4 v5 : Value) (ts : List ByteArray) (ws : List Int), (LoN 0 0 ts ws) ∧ (Lo n₀ w0 (b + 1 + (0 : Int).toNat) v4 v5 ts ws w) ∧ Fr 60 [(0, .pointer (some ⟨n₀, 0, none⟩)), (4, v4), (5, v5), (9, .int .i64 r), (10, .int .i64 0)] a)) No 9 No := by
  refine T3.leaf ?_
  rintro Q JS JX JT K hS hK hX hE hT hR a w ⟨⟨hS_, hW⟩, ⟨fr, rfl, q0, q4, q5, _⟩⟩
  obtain rfl : w = w0 := hW
  have hlt := hS_.lt
  rw [fr_loM, show fr 0 = _ from q0, show fr 4 = _ from q4, show fr 5 = _ from q5]
  clear q0 q4 q5
  conv => arg 2; whnf
  go_wp2_with fail
  refine (pick_lit n₀ b [1, 2, 3, 4, 5, 6] 6 _ _ _ rfl rfl (by decide) (by decide) hS_ (by omega)).mono ?_
  rintro e w1 ⟨r, rfl, hm, hd⟩
  have hr : 1 ≤ r ∧ r ≤ 6 := by simp at hm; omega
  clear hm
  go_wp2_with fail
  refine Met.intro (hS _ _ ?_)
  exact ⟨r, hr, ⟨by omega, by omega⟩, _, _, [], [], ⟨by simp, by simp, by simp⟩, ⟨hd, hlt, World.ownsRow_nil _ _ _ _, World.ownsRow_nil _ _ _ _, SmAll.nil⟩, Fr.of _ rfl ⟨rfl, rfl, rfl, rfl, rfl, trivial⟩⟩

set_option maxRecDepth 100000 in
set_option maxHeartbeats 1000000 in
theorem lo5 (n₀ b : Nat) (w0 : World) (hb : b ≤ 100000) (r : Int) (hr : 1 ≤ r ∧ r ≤ 6) (k : Int) : T3 Try.prog (fun a w => ∃ (v4 v5 : Value) (ts : List ByteArray) (ws : List Int), ((0 ≤ k ∧ k < r) ∧ LoN k k ts ws) ∧ (Lo n₀ w0 (b + 1 + (k : Int).toNat) v4 v5 ts ws w) ∧ Fr 60 [(0, .pointer (some ⟨n₀, 0, none⟩)), (4, v4), (5, v5), (9, .int .i64 r), (10, .int .i64 k)] a) (sel [1, 1, 1, 0, 1, 4, 4, 1, 1, 0, 4, 0] loM) (fun a w => ∃ (v4 v5 : Value) (ts : List ByteArray) (ws : List Int), ((0 ≤ k ∧ k < r) ∧ LoN k k ts ws) ∧ (Lo n₀ w0 (b + 1 + (k : Int).toNat) v4 v5 ts ws w) ∧ Fr 60 [(0, .pointer (some ⟨n₀, 0, none⟩)), (4, v4), (5, v5), (6, .int .i64 k), (9, .int .i64 r), (10, .int .i64 k)] a) No 9 No := by
  refine T3.leaf ?_
  rintro Q JS JX JT K hS hK hX hE hT hR a w ⟨v4, v5, ts, ws, hpre, hW, ⟨fr, rfl, q0, q4, q5, q9, q10, _⟩⟩
  have hpp := Lib.hid hpre
  rw [fr_loM, show fr 0 = _ from q0, show fr 4 = _ from q4, show fr 5 = _ from q5, show fr 9 = _ from q9, show fr 10 = _ from q10]
  clear q0 q4 q5 q9 q10
  conv => arg 2; whnf
  go_wp2_with fail
  refine Met.intro (hS _ _ ?_)
  exact ⟨v4, v5, ts, ws, hpp.out, hW, Fr.of _ rfl ⟨rfl, rfl, rfl, rfl, rfl, rfl, trivial⟩⟩

set_option maxRecDepth 100000 in
set_option maxHeartbeats 1000000 in
theorem lo6 (n₀ b : Nat) (w0 : World) (hb : b ≤ 100000) (r : Int) (hr : 1 ≤ r ∧ r ≤ 6) (k : Int) : T3 Try.prog (fun a w => ∃ (v4 v5 : Value) (ts : List ByteArray) (ws : List Int), ((0 ≤ k ∧ k < r) ∧ LoN k k ts ws) ∧ (Lo n₀ w0 (b + 1 + (k : Int).toNat) v4 v5 ts ws w) ∧ Fr 60 [(0, .pointer (some ⟨n₀, 0, none⟩)), (4, v4), (5, v5), (6, .int .i64 k), (9, .int .i64 r), (10, .int .i64 k)] a) (sel [1, 1, 1, 0, 1, 4, 4, 1, 1, 0, 4, 1] loM) (fun a w => ∃ (v4 v5 : Value) (ts : List ByteArray) (ws : List Int), ((0 ≤ k ∧ k < r) ∧ LoN (k + 1) (k + 1) ts ws) ∧ (Lo n₀ w0 (b + 1 + ((k + 1) : Int).toNat) v4 v5 ts ws w) ∧ Fr 60 [(0, .pointer (some ⟨n₀, 0, none⟩)), (4, v4), (5, v5), (9, .int .i64 r), (10, .int .i64 k)] a) No 9 No := by
  refine T3.leaf ?_
  rintro Q JS JX JT K hS hK hX hE hT hR a w ⟨v4, v5, ts, ws, hpre, hW, ⟨fr, rfl, q0, q4, q5, q6, q9, q10, _⟩⟩
  have hpp := Lib.hid hpre
  obtain ⟨⟨hk0, hk1⟩, hl⟩ := hpre
  have hl1 := hl.t
  have hl2 := hl.w1
  have henc := enc_sm k hk0 (by omega)
  have hsm : Sm (⟨#[116]⟩ ++ Utf8.encode (102 - k)) := by
    unfold Sm
    rw [ByteArray.size_append]
    have : (⟨#[116]⟩ : ByteArray).size = 1 := rfl
    omega
  have hE1 := el_strL
  have hE2 := el_intL
  obtain ⟨p4, c4, hv4⟩ := (Row.of_owns hW.rt).shape
  subst hv4
  obtain ⟨p5, c5, hv5⟩ := (Row.of_owns hW.rw).shape
  subst hv5
  have hz0 := hW.d.size
  clear hl
  rw [fr_loM, show fr 0 = _ from q0, show fr 4 = _ from q4, show fr 5 = _ from q5, show fr 6 = _ from q6, show fr 9 = _ from q9, show fr 10 = _ from q10]
  clear q0 q4 q5 q6 q9 q10
  conv => arg 2; whnf
  go_wp2_with first
    | (at_builtin; refine app_law rfl _ _ _ rfl hE1 (hW.rt.alloc _) rfl [.string (⟨#[116]⟩ ++ Utf8.encode (102 - k))] rfl rfl (cells_new w #[_] _) (by simp [Value.oneCell']) (by omega) (by simp; omega) ?_; intro v4' w2 hown2 hgr2; have h2 := (hW.alloc _).appT hsm hown2 hgr2)
    | (go_at_call 6; refine (pick_lit n₀ (b + 1 + k.toNat) [1, 1, 2, 3, 10, 1000] 6 _ _ _ rfl rfl (by decide) (by decide) h2.d.str (by omega)).mono ?_; rintro e w3 ⟨x, rfl, hm, hd3⟩; have h3 := h2.draw hd3; have hz3 := h3.d.size)
    | (at_builtin; refine app_law rfl _ _ _ rfl hE2 (h3.rw.alloc _) rfl [.int .i64 x] rfl rfl (cells_new w3 #[_] _) (by simp [Value.oneCell']) (by omega) (by simp; omega) ?_; intro v5' w4 hown4 hgr4; have h4 := (h3.alloc _).appW hown4 hgr4)
  refine Met.intro (hS _ _ ?_)
  refine ⟨_, _, _, _, ⟨hpp.out.1, ?_⟩, h4.mono (by omega), Fr.of _ rfl ⟨rfl, rfl, rfl, rfl, rfl, trivial⟩⟩
  have q := hpp.out.2
  exact ⟨by have := q.t; simp; omega, by have := q.w0; simp; omega, by have := q.w1; simp; omega⟩

set_option maxRecDepth 100000 in
set_option maxHeartbeats 1000000 in
theorem lob (n₀ b : Nat) (w0 : World) (hb : b ≤ 100000) (r : Int) (hr : 1 ≤ r ∧ r ≤ 6) (k : Int) : T3 Try.prog (fun a w => ∃ (v4 v5 : Value) (ts : List ByteArray) (ws : List Int), ((0 ≤ k ∧ k < r) ∧ LoN k k ts ws) ∧ (Lo n₀ w0 (b + 1 + (k : Int).toNat) v4 v5 ts ws w) ∧ Fr 60 [(0, .pointer (some ⟨n₀, 0, none⟩)), (4, v4), (5, v5), (9, .int .i64 r), (10, .int .i64 k)] a) (sel [1, 1, 1, 0, 1, 4, 4, 1, 1, 0] loM) (fun a w => ∃ (v4 v5 : Value) (ts : List ByteArray) (ws : List Int), ((0 ≤ k ∧ k < r) ∧ LoN (k + 1) (k + 1) ts ws) ∧ (Lo n₀ w0 (b + 1 + ((k + 1) : Int).toNat) v4 v5 ts ws w) ∧ Fr 60 [(0, .pointer (some ⟨n₀, 0, none⟩)), (4, v4), (5, v5), (9, .int .i64 r), (10, .int .i64 k)] a) No 9 No := T3.block (id' := 1) (c := (sel [1, 1, 1, 0, 1, 4, 4, 1, 1, 0, 4] loM)) (by decide) (T3.seq (s := (sel [1, 1, 1, 0, 1, 4, 4, 1, 1, 0, 4, 0] loM)) (c := (sel [1, 1, 1, 0, 1, 4, 4, 1, 1, 0, 4, 1] loM)) (lo5 n₀ b w0 hb r hr k) (lo6 n₀ b w0 hb r hr k))

def loAI (n₀ b : Nat) (w0 : World) (hb : b ≤ 100000) (r : Int) (hr : 1 ≤ r ∧ r ≤ 6) (k : Int) (a : Act) (w : World) : Prop := (0 ≤ k ∧ k ≤ r) ∧ ∃ (v4 v5 : Value) (ts : List ByteArray) (ws : List Int), (LoN k k ts ws) ∧ (Lo n₀ w0 (b + 1 + (k : Int).toNat) v4 v5 ts ws w) ∧ Fr 60 [(0, .pointer (some ⟨n₀, 0, none⟩)), (4, v4), (5, v5), (9, .int .i64 r), (10, .int .i64 k)] a
set_option maxRecDepth 100000 in
set_option maxHeartbeats 1000000 in
theorem loAt (n₀ b : Nat) (w0 : World) (hb : b ≤ 100000) (r : Int) (hr : 1 ≤ r ∧ r ≤ 6) (k : Int) : T3 Try.prog (fun a w => loAI n₀ b w0 hb r hr k a w) (sel [1, 1, 1, 0, 1, 4, 4, 0] loM) (fun a w => ∃ q, Fr 60 ((11, .bool q) :: [(10, .int .i64 k)]) a ∧ ((q = true ↔ k < r) ∧ loAI n₀ b w0 hb r hr k a w)) No 9 No := by
  refine T3.leaf ?_
  rintro Q JS JX JT K hS hK hX hE hT hR a w ⟨hk, v4, v5, ts, ws, hpre, hW, ⟨fr, rfl, q0, q4, q5, q9, q10, _⟩⟩
  have hr6 := hr.2
  rw [fr_loM, show fr 0 = _ from q0, show fr 4 = _ from q4, show fr 5 = _ from q5, show fr 9 = _ from q9, show fr 10 = _ from q10]
  clear q0 q4 q5 q9 q10
  conv => arg 2; whnf
  by_cases hlt : k < r
  · go_wp2_with fail
    refine Met.intro (hS _ _ ?_)
    exact ⟨true, Fr.of _ rfl ⟨rfl, rfl, trivial⟩, ⟨fun _ => hlt, fun _ => rfl⟩, hk, v4, v5, ts, ws, hpre, hW, Fr.of _ rfl ⟨rfl, rfl, rfl, rfl, rfl, trivial⟩⟩
  · have hpb : decide (k < (r)) = false := by simp; omega
    go_wp2_with fail
    refine Met.intro (hS _ _ ?_)
    exact ⟨false, Fr.of _ rfl ⟨rfl, rfl, trivial⟩, ⟨(fun h => by cases h), fun h => absurd h (by omega)⟩, hk, v4, v5, ts, ws, hpre, hW, Fr.of _ rfl ⟨rfl, rfl, rfl, rfl, rfl, trivial⟩⟩

set_option maxRecDepth 100000 in
set_option maxHeartbeats 1000000 in
theorem loAn (n₀ b : Nat) (w0 : World) (hb : b ≤ 100000) (r : Int) (hr : 1 ≤ r ∧ r ≤ 6) (k : Int) : T3 Try.prog (fun a w => (0 ≤ k ∧ k < r) ∧ ∃ (v4 v5 : Value) (ts : List ByteArray) (ws : List Int), (LoN (k + 1) (k + 1) ts ws) ∧ (Lo n₀ w0 (b + 1 + ((k + 1) : Int).toNat) v4 v5 ts ws w) ∧ Fr 60 [(0, .pointer (some ⟨n₀, 0, none⟩)), (4, v4), (5, v5), (9, .int .i64 r), (10, .int .i64 k)] a) (sel [1, 1, 1, 0, 1, 4, 4, 1, 1, 1] loM) (fun a w => loAI n₀ b w0 hb r hr (k + 1) a w) No 9 No := by
  refine T3.leaf ?_
  rintro Q JS JX JT K hS hK hX hE hT hR a w ⟨hk, v4, v5, ts, ws, hpre, hW, ⟨fr, rfl, q0, q4, q5, q9, q10, _⟩⟩
  obtain ⟨hk0, hk1⟩ := hk
  have hr6 := hr.2
  rw [fr_loM, show fr 0 = _ from q0, show fr 4 = _ from q4, show fr 5 = _ from q5, show fr 9 = _ from q9, show fr 10 = _ from q10]
  clear q0 q4 q5 q9 q10
  conv => arg 2; whnf
  go_wp2_with fail
  refine Met.intro (hS _ _ ?_)
  exact ⟨⟨by omega, by omega⟩, v4, v5, ts, ws, hpre, hW, Fr.of _ rfl ⟨rfl, rfl, rfl, rfl, rfl, trivial⟩⟩

set_option maxRecDepth 100000 in
set_option maxHeartbeats 1000000 in
theorem loAloop (n₀ b : Nat) (w0 : World) (hb : b ≤ 100000) (r : Int) (hr : 1 ≤ r ∧ r ≤ 6) : T3 Try.prog (fun a w => loAI n₀ b w0 hb r hr 0 a w) (sel [1, 1, 1, 0, 1] loM) (fun a w => ∃ (v4 v5 : Value) (ts : List ByteArray) (ws : List Int), (LoN 1 6 ts ws) ∧ (Lo n₀ w0 (b + 7) v4 v5 ts ws w) ∧ Fr 60 [(0, .pointer (some ⟨n₀, 0, none⟩)), (4, v4), (5, v5)] a) No 9 No := by
  refine T3.loop (c := (sel [1, 1, 1, 0, 1, 4, 4] loM)) (fun ng_ a w => ∃ k : Int, (ng_ : Int) = r - k ∧ loAI n₀ b w0 hb r hr k a w) (fun a w h => ⟨(r : Int).toNat, 0, by have := h.1.2; omega, h⟩) (fun ng_ => T3.ex fun k => T3.pure fun hng_ => ?_)
  refine T3.seq (s := (sel [1, 1, 1, 0, 1, 4, 4, 0] loM)) (c := (sel [1, 1, 1, 0, 1, 4, 4, 1] loM)) ((loAt n₀ b w0 hb r hr k).noX) ?_
  refine T3.seq (s := (sel [1, 1, 1, 0, 1, 4, 4, 1, 0] loM)) (c := (sel [1, 1, 1, 0, 1, 4, 4, 1, 1] loM)) (S := fun a w => (0 ≤ k ∧ k < r) ∧ ∃ (v4 v5 : Value) (ts : List ByteArray) (ws : List Int), (LoN k k ts ws) ∧ (Lo n₀ w0 (b + 1 + (k : Int).toNat) v4 v5 ts ws w) ∧ Fr 60 [(0, .pointer (some ⟨n₀, 0, none⟩)), (4, v4), (5, v5), (9, .int .i64 r), (10, .int .i64 k)] a) ?_ (T3.seq (s := (sel [1, 1, 1, 0, 1, 4, 4, 1, 1, 0] loM)) (c := (sel [1, 1, 1, 0, 1, 4, 4, 1, 1, 1] loM)) (S := fun a w => (0 ≤ k ∧ k < r) ∧ ∃ (v4 v5 : Value) (ts : List ByteArray) (ws : List Int), (LoN (k + 1) (k + 1) ts ws) ∧ (Lo n₀ w0 (b + 1 + ((k + 1) : Int).toNat) v4 v5 ts ws w) ∧ Fr 60 [(0, .pointer (some ⟨n₀, 0, none⟩)), (4, v4), (5, v5), (9, .int .i64 r), (10, .int .i64 k)] a) (T3.noX (T3.mono (R' := fun a w => (0 ≤ k ∧ k < r) ∧ ∃ (v4 v5 : Value) (ts : List ByteArray) (ws : List Int), (LoN k k ts ws) ∧ (Lo n₀ w0 (b + 1 + (k : Int).toNat) v4 v5 ts ws w) ∧ Fr 60 [(0, .pointer (some ⟨n₀, 0, none⟩)), (4, v4), (5, v5), (9, .int .i64 r), (10, .int .i64 k)] a) (S' := fun a w => (0 ≤ k ∧ k < r) ∧ ∃ (v4 v5 : Value) (ts : List ByteArray) (ws : List Int), (LoN (k + 1) (k + 1) ts ws) ∧ (Lo n₀ w0 (b + 1 + ((k + 1) : Int).toNat) v4 v5 ts ws w) ∧ Fr 60 [(0, .pointer (some ⟨n₀, 0, none⟩)), (4, v4), (5, v5), (9, .int .i64 r), (10, .int .i64 k)] a) (lob n₀ b w0 hb r hr k) (fun a w ⟨hk, v4, v5, ts, ws, hp, hI⟩ => ⟨v4, v5, ts, ws, ⟨hk, hp⟩, hI⟩) (fun a w ⟨v4, v5, ts, ws, ⟨hk, hp⟩, hI⟩ => ⟨hk, v4, v5, ts, ws, hp, hI⟩) (fun _ _ q => q) (fun _ _ q => q))) ?_)
  · refine T3.cond (o := .tmp 11) (x := .skip) (y := .exit 0) (fun a w => k < r ∧ loAI n₀ b w0 hb r hr k a w) (fun a w => ¬ k < r ∧ loAI n₀ b w0 hb r hr k a w) ?_ (T3.skip ?_) (T3.exit ?_)
    · rintro a w ⟨q, hF, hq, hI⟩
      have he := hF.eval 11 (by decide) (v := .bool q) (by simp)
      cases q
      · exact .inr ⟨he, (fun h => by have := hq.2 h; cases this), hI⟩
      · exact .inl ⟨he, hq.1 rfl, hI⟩
    · rintro a w ⟨hlt, hk, hI⟩
      exact ⟨⟨hk.1, hlt⟩, hI⟩
    · rintro a w ⟨hlt, hk, hI⟩
      obtain rfl : k = r := by omega
      obtain ⟨v4, v5, ts, ws, hl, hW, hF⟩ := hI
      exact ⟨v4, v5, ts, ws, ⟨by have := hl.t; omega, by have := hl.w0; omega, by have := hl.w1; omega⟩, hW.mono (by omega), hF.sub (by simp)⟩
  · intro a w hx
    have hk := hx.1
    exact (((loAn n₀ b w0 hb r hr k).noX).post (fun a w q => ⟨ng_ - 1, by omega, k + 1, by omega, q⟩)) a w hx
set_option maxRecDepth 100000 in
set_option maxHeartbeats 1000000 in
theorem lo8 (n₀ b : Nat) (w0 : World) (hb : b ≤ 100000) (v4 v5 : Value) (ts : List ByteArray) (ws : List Int) (hl : LoN 1 6 ts ws) : T3 Try.prog (fun a w => (Lo n₀ w0 (b + 7) v4 v5 ts ws w) ∧ Fr 60 [(0, .pointer (some ⟨n₀, 0, none⟩)), (4, v4), (5, v5)] a) (sel [1, 1, 1, 1, 0, 0] loM) (fun a w => ∃ (qn : Int), (0 ≤ qn ∧ qn < 20) ∧ (Lo n₀ w0 (b + 8) v4 v5 ts ws w) ∧ Fr 60 [(0, .pointer (some ⟨n₀, 0, none⟩)), (4, v4), (5, v5), (29, .int .i64 qn)] a) No 9 No := by
  refine T3.leaf ?_
  rintro Q JS JX JT K hS hK hX hE hT hR a w ⟨hW, ⟨fr, rfl, q0, q4, q5, _⟩⟩
  have hlt := hW.d.str
  rw [fr_loM, show fr 0 = _ from q0, show fr 4 = _ from q4, show fr 5 = _ from q5]
  clear q0 q4 q5
  conv => arg 2; whnf
  go_wp2_with fail
  refine (next_d n₀ (b + 7) 20 w hW.d.str (by omega) (by omega) (by omega)).mono ?_
  rintro e w1 ⟨qn, rfl, hq0, hq1, hd⟩
  have HW := hW.draw hd
  go_wp2_with fail
  refine Met.intro (hS _ _ ?_)
  exact ⟨qn, ⟨hq0, hq1⟩, HW, Fr.of _ rfl ⟨rfl, rfl, rfl, rfl, trivial⟩⟩

set_option maxRecDepth 100000 in
set_option maxHeartbeats 1000000 in
theorem lo9 (n₀ b : Nat) (w0 : World) (hb : b ≤ 100000) (v4 v5 : Value) (ts : List ByteArray) (ws : List Int) (hl : LoN 1 6 ts ws) (qn : Int) (hq : 0 ≤ qn ∧ qn < 20) : T3 Try.prog (fun a w => (Lo n₀ w0 (b + 8) v4 v5 ts ws w) ∧ Fr 60 [(0, .pointer (some ⟨n₀, 0, none⟩)), (4, v4), (5, v5), (29, .int .i64 qn)] a) (sel [1, 1, 1, 1, 0, 1, 4, 0] loM) (fun a w => ∃ q, Fr 60 ((30, .bool q) :: [(0, .pointer (some ⟨n₀, 0, none⟩)), (4, v4), (5, v5), (29, .int .i64 qn)]) a ∧ ((q = (qn == 0)) ∧ Lo n₀ w0 (b + 8) v4 v5 ts ws w)) No 9 No := by
  refine T3.leaf ?_
  rintro Q JS JX JT K hS hK hX hE hT hR a w ⟨hW, ⟨fr, rfl, q0, q4, q5, q29, _⟩⟩
  generalize hqq : (qn == 0) = qq at *
  obtain ⟨p4, c4, hv4⟩ := (Row.of_owns hW.rt).shape
  subst hv4
  obtain ⟨p5, c5, hv5⟩ := (Row.of_owns hW.rw).shape
  subst hv5
  have hl1 := hl.t
  have hl2 := hl.w0
  have hl3 := hl.w1
  have hz0 := hW.d.size
  rw [fr_loM, show fr 0 = _ from q0, show fr 4 = _ from q4, show fr 5 = _ from q5, show fr 29 = _ from q29]
  clear q0 q4 q5 q29
  conv => arg 2; whnf
  go_wp2_with fail
  refine Met.intro (hS _ _ ?_)
  exact ⟨_, Fr.of _ rfl ⟨rfl, rfl, rfl, rfl, rfl, trivial⟩, rfl, hW⟩

set_option maxRecDepth 100000 in
set_option maxHeartbeats 1000000 in
theorem lo10 (n₀ b : Nat) (w0 : World) (hb : b ≤ 100000) (v4 v5 : Value) (ts : List ByteArray) (ws : List Int) (hl : LoN 1 6 ts ws) (qn : Int) (hq : 0 ≤ qn ∧ qn < 20) : T3 Try.prog (fun a w => (Lo n₀ w0 (b + 8) v4 v5 ts ws w) ∧ Fr 60 [(0, .pointer (some ⟨n₀, 0, none⟩)), (4, v4), (5, v5), (29, .int .i64 qn)] a) (sel [1, 1, 1, 1, 0, 1, 4, 1, 2, 0] loM) (fun a w => ∃ (v4 : Value) (ts : List ByteArray), (((ts.length : Int) ≤ 7)) ∧ (Lo n₀ w0 (b + 9) v4 v5 ts ws w) ∧ Fr 60 [(4, v4), (5, v5)] a) No 9 No := by
  refine T3.leaf ?_
  rintro Q JS JX JT K hS hK hX hE hT hR a w ⟨hW, ⟨fr, rfl, q0, q4, q5, q29, _⟩⟩
  obtain ⟨p4, c4, hv4⟩ := (Row.of_owns hW.rt).shape
  subst hv4
  obtain ⟨p5, c5, hv5⟩ := (Row.of_owns hW.rw).shape
  subst hv5
  have hl1 := hl.t
  have hl2 := hl.w0
  have hl3 := hl.w1
  have hz0 := hW.d.size
  have hE1 := el_strL
  rw [fr_loM, show fr 0 = _ from q0, show fr 4 = _ from q4, show fr 5 = _ from q5, show fr 29 = _ from q29]
  clear q0 q4 q5 q29
  conv => arg 2; whnf
  go_wp2_with first
    | (go_at_call 7; refine (some_lit n₀ (b + 8) [⟨#[]⟩, ⟨#[116, 102]⟩] 2 _ _ _ rfl rfl (by decide) (by decide) hW.d.str (by omega)).mono ?_; rintro e w1 ⟨x, rfl, hm, hd⟩; have h1 := hW.draw hd; have hz1 := h1.d.size)
    | (at_builtin; refine app_law rfl _ _ _ rfl hE1 (h1.rt.alloc _) rfl [.string x] rfl rfl (cells_new w1 #[_] _) (by simp [Value.oneCell']) (by omega) (by simp; omega) ?_; intro v4' w2 hown2 hgr2; have h2 := (h1.alloc _).appT (by simp at hm; rcases hm with rfl | rfl <;> decide) hown2 hgr2)
  refine Met.intro (hS _ _ ?_)
  exact ⟨_, _, (by simp; omega), h2, Fr.of _ rfl ⟨rfl, rfl, trivial⟩⟩

set_option maxRecDepth 100000 in
set_option maxHeartbeats 1000000 in
theorem lo11 (n₀ b : Nat) (w0 : World) (hb : b ≤ 100000) (v4 v5 : Value) (ts : List ByteArray) (ws : List Int) (h7 : (ts.length : Int) ≤ 7) (hw0 : 1 ≤ (ws.length : Int)) (hw1 : (ws.length : Int) ≤ 6) : T3 Try.prog (fun a w => (Lo n₀ w0 (b + 9) v4 v5 ts ws w) ∧ Fr 60 [(4, v4), (5, v5)] a) (sel [1, 1, 1, 1, 0, 1, 4, 1, 2, 1] loM) (fun a w => ∃ (v4 v5 : Value) (ts : List ByteArray) (ws : List Int), (LoN 1 7 ts ws) ∧ (Lo n₀ w0 (b + 11) v4 v5 ts ws w) ∧ Fr 60 [(4, v4), (5, v5)] a) No 9 No := by
  refine T3.leaf ?_
  rintro Q JS JX JT K hS hK hX hE hT hR a w ⟨hW, ⟨fr, rfl, q4, q5, _⟩⟩
  obtain ⟨p4, c4, hv4⟩ := (Row.of_owns hW.rt).shape
  subst hv4
  obtain ⟨p5, c5, hv5⟩ := (Row.of_owns hW.rw).shape
  subst hv5
  have hz0 := hW.d.size
  have hE2 := el_intL
  rw [fr_loM, show fr 4 = _ from q4, show fr 5 = _ from q5]
  clear q4 q5
  conv => arg 2; whnf
  go_wp2_with (at_builtin; refine app_law rfl _ _ _ rfl hE2 (hW.rw.alloc _) rfl [.int .i64 1] rfl rfl (cells_new w #[_] _) (by simp [Value.oneCell']) (by omega) (by simp; omega) ?_; intro v5' w4 hown4 hgr4; have h4 := (hW.alloc _).appW hown4 hgr4)
  refine Met.intro (hS _ _ ?_)
  exact ⟨_, _, _, _, ⟨h7, by simp; omega, by simp; omega⟩, h4.mono (by omega), Fr.of _ rfl ⟨rfl, rfl, trivial⟩⟩

set_option maxRecDepth 100000 in
set_option maxHeartbeats 1000000 in
theorem lo12 (n₀ b : Nat) (w0 : World) (hb : b ≤ 100000) (v4 v5 : Value) (ts : List ByteArray) (ws : List Int) (hl : LoN 1 6 ts ws) (qn : Int) (hq : 0 ≤ qn ∧ qn < 20) : T3 Try.prog (fun a w => (Lo n₀ w0 (b + 8) v4 v5 ts ws w) ∧ Fr 60 [(0, .pointer (some ⟨n₀, 0, none⟩)), (4, v4), (5, v5), (29, .int .i64 qn)] a) (sel [1, 1, 1, 1, 0, 1, 4, 1, 3, 0] loM) (fun a w => ∃ q, Fr 60 ((41, .bool q) :: [(0, .pointer (some ⟨n₀, 0, none⟩)), (4, v4), (5, v5), (29, .int .i64 qn)]) a ∧ ((q = (qn == 1)) ∧ Lo n₀ w0 (b + 8) v4 v5 ts ws w)) No 9 No := by
  refine T3.leaf ?_
  rintro Q JS JX JT K hS hK hX hE hT hR a w ⟨hW, ⟨fr, rfl, q0, q4, q5, q29, _⟩⟩
  generalize hqq : (qn == 1) = qq at *
  obtain ⟨p4, c4, hv4⟩ := (Row.of_owns hW.rt).shape
  subst hv4
  obtain ⟨p5, c5, hv5⟩ := (Row.of_owns hW.rw).shape
  subst hv5
  have hl1 := hl.t
  have hl2 := hl.w0
  have hl3 := hl.w1
  have hz0 := hW.d.size
  rw [fr_loM, show fr 0 = _ from q0, show fr 4 = _ from q4, show fr 5 = _ from q5, show fr 29 = _ from q29]
  clear q0 q4 q5 q29
  conv => arg 2; whnf
  go_wp2_with fail
  refine Met.intro (hS _ _ ?_)
  exact ⟨_, Fr.of _ rfl ⟨rfl, rfl, rfl, rfl, rfl, trivial⟩, rfl, hW⟩

set_option maxRecDepth 100000 in
set_option maxHeartbeats 1000000 in
theorem lo13 (n₀ b : Nat) (w0 : World) (hb : b ≤ 100000) (v4 v5 : Value) (ts : List ByteArray) (ws : List Int) (hl : LoN 1 6 ts ws) (qn : Int) (hq : 0 ≤ qn ∧ qn < 20) : T3 Try.prog (fun a w => (Lo n₀ w0 (b + 8) v4 v5 ts ws w) ∧ Fr 60 [(0, .pointer (some ⟨n₀, 0, none⟩)), (4, v4), (5, v5), (29, .int .i64 qn)] a) (sel [1, 1, 1, 1, 0, 1, 4, 1, 3, 1, 2] loM) (fun a w => ∃ (v4 v5 : Value) (ts : List ByteArray) (ws : List Int), (LoN 1 7 ts ws) ∧ (Lo n₀ w0 (b + 11) v4 v5 ts ws w) ∧ Fr 60 [(4, v4), (5, v5)] a) No 9 No := by
  refine T3.leaf ?_
  rintro Q JS JX JT K hS hK hX hE hT hR a w ⟨hW, ⟨fr, rfl, q0, q4, q5, q29, _⟩⟩
  obtain ⟨p4, c4, hv4⟩ := (Row.of_owns hW.rt).shape
  subst hv4
  obtain ⟨p5, c5, hv5⟩ := (Row.of_owns hW.rw).shape
  subst hv5
  have hl1 := hl.t
  have hl2 := hl.w0
  have hl3 := hl.w1
  have hz0 := hW.d.size
  have hE2 := el_intL
  rw [fr_loM, show fr 0 = _ from q0, show fr 4 = _ from q4, show fr 5 = _ from q5, show fr 29 = _ from q29]
  clear q0 q4 q5 q29
  conv => arg 2; whnf
  go_wp2_with first
    | (go_at_call 10; refine (odd_d n₀ (b + 8) 1 5 w (by decide) (by decide) (by decide) hW.d.str (by omega)).mono ?_; rintro e w1 ⟨x, rfl, hm, hd⟩; have h1 := hW.draw hd; have hz1 := h1.d.size)
    | (at_builtin; refine app_law rfl _ _ _ rfl hE2 (h1.rw.alloc _) rfl [.int .i64 x] rfl rfl (cells_new w1 #[_] _) (by simp [Value.oneCell']) (by omega) (by simp; omega) ?_; intro v5' w4 hown4 hgr4; have h4 := (h1.alloc _).appW hown4 hgr4)
  refine Met.intro (hS _ _ ?_)
  exact ⟨_, _, _, _, ⟨by omega, by simp; omega, by simp; omega⟩, h4.mono (by omega), Fr.of _ rfl ⟨rfl, rfl, trivial⟩⟩

set_option maxRecDepth 100000 in
set_option maxHeartbeats 1000000 in
theorem lo14 (n₀ b : Nat) (w0 : World) (hb : b ≤ 100000) (v4 v5 : Value) (ts : List ByteArray) (ws : List Int) (hl : LoN 1 6 ts ws) (qn : Int) (hq : 0 ≤ qn ∧ qn < 20) : T3 Try.prog (fun a w => (Lo n₀ w0 (b + 8) v4 v5 ts ws w) ∧ Fr 60 [(0, .pointer (some ⟨n₀, 0, none⟩)), (4, v4), (5, v5), (29, .int .i64 qn)] a) (sel [1, 1, 1, 1, 0, 1, 4, 1, 3, 1, 3, 0] loM) (fun a w => ∃ q, Fr 60 ((48, .bool q) :: [(0, .pointer (some ⟨n₀, 0, none⟩)), (4, v4), (5, v5), (29, .int .i64 qn)]) a ∧ ((q = (qn == 2)) ∧ Lo n₀ w0 (b + 8) v4 v5 ts ws w)) No 9 No := by
  refine T3.leaf ?_
  rintro Q JS JX JT K hS hK hX hE hT hR a w ⟨hW, ⟨fr, rfl, q0, q4, q5, q29, _⟩⟩
  generalize hqq : (qn == 2) = qq at *
  obtain ⟨p4, c4, hv4⟩ := (Row.of_owns hW.rt).shape
  subst hv4
  obtain ⟨p5, c5, hv5⟩ := (Row.of_owns hW.rw).shape
  subst hv5
  have hl1 := hl.t
  have hl2 := hl.w0
  have hl3 := hl.w1
  have hz0 := hW.d.size
  rw [fr_loM, show fr 0 = _ from q0, show fr 4 = _ from q4, show fr 5 = _ from q5, show fr 29 = _ from q29]
  clear q0 q4 q5 q29
  conv => arg 2; whnf
  go_wp2_with fail
  refine Met.intro (hS _ _ ?_)
  exact ⟨_, Fr.of _ rfl ⟨rfl, rfl, rfl, rfl, rfl, trivial⟩, rfl, hW⟩

set_option maxRecDepth 100000 in
set_option maxHeartbeats 1000000 in
theorem lo15 (n₀ b : Nat) (w0 : World) (hb : b ≤ 100000) (v4 v5 : Value) (ts : List ByteArray) (ws : List Int) (hl : LoN 1 6 ts ws) (qn : Int) (hq : 0 ≤ qn ∧ qn < 20) : T3 Try.prog (fun a w => (Lo n₀ w0 (b + 8) v4 v5 ts ws w) ∧ Fr 60 [(0, .pointer (some ⟨n₀, 0, none⟩)), (4, v4), (5, v5), (29, .int .i64 qn)] a) (sel [1, 1, 1, 1, 0, 1, 4, 1, 3, 1, 3, 1, 2] loM) (fun a w => ∃ (v4 v5 : Value) (ts : List ByteArray) (ws : List Int), (LoN 1 7 ts ws) ∧ (Lo n₀ w0 (b + 11) v4 v5 ts ws w) ∧ Fr 60 [(4, v4), (5, v5)] a) No 9 No := by
  refine T3.leaf ?_
  rintro Q JS JX JT K hS hK hX hE hT hR a w ⟨hW, ⟨fr, rfl, q0, q4, q5, q29, _⟩⟩
  obtain ⟨p4, c4, hv4⟩ := (Row.of_owns hW.rt).shape
  subst hv4
  have hl1 := hl.t
  have hl2 := hl.w0
  have hl3 := hl.w1
  have hz0 := hW.d.size
  obtain ⟨g5, c5, hv5, hg5, _⟩ := owns_shape hW.rw (by omega)
  subst hv5
  rw [fr_loM, show fr 0 = _ from q0, show fr 4 = _ from q4, show fr 5 = _ from q5, show fr 29 = _ from q29]
  clear q0 q4 q5 q29
  conv => arg 2; whnf
  go_wp2_with fail
  refine (next_d n₀ (b + 8) ws.length w hW.d.str (by omega) (by omega) (by omega)).mono ?_
  rintro e w1 ⟨i, rfl, hi0, hi1, hd⟩
  have h1 := hW.draw hd
  clear hd
  go_wp2_with fail
  refine (odd_d n₀ (b + 8 + 1) 1 1000 w1 (by decide) (by decide) (by decide) h1.d.str (by omega)).mono ?_
  rintro e w2 ⟨x, rfl, hm, hd⟩
  have h2 := h1.draw hd
  clear hd h1
  have hc := ints_of_owns h2.rw i hi0 hi1
  have hfz := ints_frozen h2.rw i.toNat
  have h3 := h2.set rfl i.toNat (by omega) x
  have HW := Lib.hid h3
  clear h2 h3
  go_wp2_with fail
  refine Met.intro (hS _ _ ?_)
  exact ⟨_, _, _, _, ⟨by omega, by simp; omega, by simp; omega⟩, HW.out.mono (by omega), Fr.of _ rfl ⟨rfl, rfl, trivial⟩⟩

set_option maxRecDepth 100000 in
set_option maxHeartbeats 1000000 in
theorem lo16 (n₀ b : Nat) (w0 : World) (v4 v5 : Value) (ts : List ByteArray) (ws : List Int) : T3 Try.prog (fun a w => (Lo n₀ w0 (b + 11) v4 v5 ts ws w) ∧ Fr 60 [(4, v4), (5, v5)] a) (sel [1, 1, 1, 1, 1, 0] loM) (fun a w => (Lo n₀ w0 (b + 11) v4 v5 ts ws w) ∧ Fr 60 [(2, v4), (3, v5)] a) No 9 No := by
  refine T3.leaf ?_
  rintro Q JS JX JT K hS hK hX hE hT hR a w ⟨hW, ⟨fr, rfl, q4, q5, _⟩⟩
  obtain ⟨p4, c4, hv4⟩ := (Row.of_owns hW.rt).shape
  subst hv4
  obtain ⟨p5, c5, hv5⟩ := (Row.of_owns hW.rw).shape
  subst hv5
  have hz0 := hW.d.size
  rw [fr_loM, show fr 4 = _ from q4, show fr 5 = _ from q5]
  clear q4 q5
  conv => arg 2; whnf
  go_wp2_with fail
  refine Met.intro (hS _ _ ?_)
  exact ⟨hW, Fr.of _ rfl ⟨rfl, rfl, trivial⟩⟩

set_option maxRecDepth 100000 in
set_option maxHeartbeats 1000000 in
theorem lo_sw (n₀ b : Nat) (w0 : World) (hb : b ≤ 100000) (v4 v5 : Value) (ts : List ByteArray) (ws : List Int) (hl : LoN 1 6 ts ws) (qn : Int) (hq : 0 ≤ qn ∧ qn < 20) : T3 Try.prog (fun a w => (Lo n₀ w0 (b + 8) v4 v5 ts ws w) ∧ Fr 60 [(0, .pointer (some ⟨n₀, 0, none⟩)), (4, v4), (5, v5), (29, .int .i64 qn)] a) (sel [1, 1, 1, 1, 0, 1] loM) (fun a w => ∃ (v4 v5 : Value) (ts : List ByteArray) (ws : List Int), (LoN 1 7 ts ws) ∧ (Lo n₀ w0 (b + 11) v4 v5 ts ws w) ∧ Fr 60 [(4, v4), (5, v5)] a) No 9 No := by
  refine T3.block (id' := 2) (c := (sel [1, 1, 1, 1, 0, 1, 4] loM)) (by decide) ?_
  refine T3.seq (s := (sel [1, 1, 1, 1, 0, 1, 4, 0] loM)) (c := .cond (.tmp 30) (sel [1, 1, 1, 1, 0, 1, 4, 1, 2] loM) (sel [1, 1, 1, 1, 0, 1, 4, 1, 3] loM)) (lo9 n₀ b w0 hb v4 v5 ts ws hl qn hq) ?_
  refine T3.iff (M := fun x w => (x = (qn == 0)) ∧ Lo n₀ w0 (b + 8) v4 v5 ts ws w) (by decide) ?_ ?_
  · refine T3.seq (s := (sel [1, 1, 1, 1, 0, 1, 4, 1, 2, 0] loM)) (c := (sel [1, 1, 1, 1, 0, 1, 4, 1, 2, 1] loM)) ((lo10 n₀ b w0 hb v4 v5 ts ws hl qn hq).pre fun a w x => ⟨x.2.2, x.1.tail⟩) (T3.ex fun v4' => T3.ex fun ts' => T3.pure fun h7 => ?_)
    exact lo11 n₀ b w0 hb v4' v5 ts' ws h7 hl.w0 hl.w1
  refine T3.pre (R := (fun a w => (Lo n₀ w0 (b + 8) v4 v5 ts ws w) ∧ Fr 60 [(0, .pointer (some ⟨n₀, 0, none⟩)), (4, v4), (5, v5), (29, .int .i64 qn)] a)) ?_ (fun a w x => ⟨x.2.2, x.1.tail⟩)
  refine T3.seq (s := (sel [1, 1, 1, 1, 0, 1, 4, 1, 3, 0] loM)) (c := .cond (.tmp 41) (sel [1, 1, 1, 1, 0, 1, 4, 1, 3, 1, 2] loM) (sel [1, 1, 1, 1, 0, 1, 4, 1, 3, 1, 3] loM)) (lo12 n₀ b w0 hb v4 v5 ts ws hl qn hq) ?_
  refine T3.iff (M := fun x w => (x = (qn == 1)) ∧ Lo n₀ w0 (b + 8) v4 v5 ts ws w) (by decide) ((lo13 n₀ b w0 hb v4 v5 ts ws hl qn hq).pre fun a w x => ⟨x.2.2, x.1.tail⟩) ?_
  refine T3.pre (R := (fun a w => (Lo n₀ w0 (b + 8) v4 v5 ts ws w) ∧ Fr 60 [(0, .pointer (some ⟨n₀, 0, none⟩)), (4, v4), (5, v5), (29, .int .i64 qn)] a)) ?_ (fun a w x => ⟨x.2.2, x.1.tail⟩)
  refine T3.seq (s := (sel [1, 1, 1, 1, 0, 1, 4, 1, 3, 1, 3, 0] loM)) (c := .cond (.tmp 48) (sel [1, 1, 1, 1, 0, 1, 4, 1, 3, 1, 3, 1, 2] loM) .skip) (lo14 n₀ b w0 hb v4 v5 ts ws hl qn hq) ?_
  refine T3.iff (M := fun x w => (x = (qn == 2)) ∧ Lo n₀ w0 (b + 8) v4 v5 ts ws w) (by decide) ((lo15 n₀ b w0 hb v4 v5 ts ws hl qn hq).pre fun a w x => ⟨x.2.2, x.1.tail⟩) (T3.skip ?_)
  rintro a w ⟨hF, _, hW⟩
  exact ⟨v4, v5, ts, ws, ⟨by have := hl.t; omega, hl.w0, by have := hl.w1; omega⟩, hW.mono (by omega), hF.sub (by simp)⟩

set_option maxRecDepth 100000 in
set_option maxHeartbeats 1000000 in
theorem lo_all (n₀ b : Nat) (w0 : World) (hb : b ≤ 100000) : T3 Try.prog (fun a w => (Str n₀ w b ∧ IsW w0 w) ∧ Fr 60 [(0, .pointer (some ⟨n₀, 0, none⟩))] a) loM No No 9 (fun a w => ∃ (v4 v5 : Value) (ts : List ByteArray) (ws : List Int), LoN 1 7 ts ws ∧ Lo n₀ w0 (b + 11) v4 v5 ts ws w ∧ Fr 60 [(2, v4), (3, v5)] a) := by
  refine T3.seq (s := (sel [0] loM)) (c := (sel [1] loM)) ((lo0 n₀ b w0 hb).mono (fun _ _ q => q) (fun _ _ q => q) (fun _ _ q => q.elim) (fun _ _ q => q)) ?_
  refine T3.seq (s := (sel [1, 0] loM)) (c := (sel [1, 1] loM)) ((lo1 n₀ b w0 hb).mono (fun _ _ q => q) (fun _ _ q => q) (fun _ _ q => q.elim) (fun _ _ q => q)) ?_
  refine T3.seq (s := (sel [1, 1, 0] loM)) (c := (sel [1, 1, 1] loM)) ((lo2 n₀ b w0 hb).mono (fun _ _ q => q) (fun _ _ q => q) (fun _ _ q => q.elim) (fun _ _ q => q)) ?_
  refine T3.seq (s := (sel [1, 1, 1, 0] loM)) (c := (sel [1, 1, 1, 1] loM)) (T3.seq (s := (sel [1, 1, 1, 0, 0] loM)) (c := (sel [1, 1, 1, 0, 1] loM)) ((lo3 n₀ b w0 hb).mono (fun _ _ q => q) (fun _ _ q => q) (fun _ _ q => q.elim) (fun _ _ q => q)) (T3.ex fun r => T3.pure fun hr => (loAloop n₀ b w0 hb r hr).mono (fun _ _ q => q) (fun _ _ q => q) (fun _ _ q => q.elim) (fun _ _ q => q))) ?_
  refine T3.ex fun v4 => T3.ex fun v5 => T3.ex fun ts => T3.ex fun ws => T3.pure fun hl => ?_
  refine T3.seq (s := (sel [1, 1, 1, 1, 0] loM)) (c := (sel [1, 1, 1, 1, 1] loM)) (T3.seq (s := (sel [1, 1, 1, 1, 0, 0] loM)) (c := (sel [1, 1, 1, 1, 0, 1] loM)) ((lo8 n₀ b w0 hb v4 v5 ts ws hl).mono (fun _ _ q => q) (fun _ _ q => q) (fun _ _ q => q.elim) (fun _ _ q => q)) (T3.ex fun qn => T3.pure fun hq => (lo_sw n₀ b w0 hb v4 v5 ts ws hl qn hq).mono (fun _ _ q => q) (fun _ _ q => q) (fun _ _ q => q.elim) (fun _ _ q => q))) ?_
  refine T3.ex fun v4 => T3.ex fun v5 => T3.ex fun ts => T3.ex fun ws => T3.pure fun hl => ?_
  exact T3.seq (s := (sel [1, 1, 1, 1, 1, 0] loM)) (c := .ret) ((lo16 n₀ b w0 v4 v5 ts ws).mono (fun _ _ q => q) (fun _ _ q => q) (fun _ _ q => q.elim) (fun _ _ q => q)) (T3.ret fun a w x => ⟨v4, v5, ts, ws, hl, x.1, x.2⟩)

set_option maxRecDepth 100000 in
set_option maxHeartbeats 1000000 in
theorem lotteries_any (B b : Nat) (w : World) (hS : Str B w b) (hb : b ≤ 100000) : Calls Try.prog 5 #[.pointer (some ⟨B, 0, none⟩)] w fun e w' => ∃ (v4 v5 : Value) (ts : List ByteArray) (ws : List Int), e = .returned (.tuple #[v4, v5]) ∧ LoN 1 7 ts ws ∧ Lo B w (b + 11) v4 v5 ts ws w' := by
  have hall := lo_all B b w hb
  go_enter Try.func5, Try.ntmps5
  refine T3.done (s := loM) hall ⟨⟨hS, rfl⟩, Fr.of _ rfl ⟨rfl, trivial⟩⟩ ?_
  rintro a w ⟨v4, v5, ts, ws, hl, hW, ⟨fr, rfl, q2, q3, _⟩⟩
  rw [fr_loM, show fr 2 = _ from q2, show fr 3 = _ from q3]
  go_ret2
  exact ⟨v4, v5, ts, ws, rfl, hl, hW⟩
end Go.Proofs.Ytkdimgghljklmaa
/-
  Lots: the program's count of ways: the loop that gathers, joined. Conditions: right weights.
-/
set_option linter.unusedVariables false
namespace Go.Proofs.Ytkdimgghljklmaa
open Go.RowKit Go.Bw
set_option maxRecDepth 100000 in
set_option maxHeartbeats 1000000 in
theorem wyb (w0 : World) (gl bt : Nat) (vw vtk : Value) (nt : Nat) (ws : List Int) (who place top : Nat) (h : List Nat) (c : Wc w0 gl bt vw vtk nt ws who place top h) (k : Int) : T3 Try.prog (fun a w => ∃ (v5 : Value), (0 ≤ k ∧ k < nt) ∧ (Wy w0 gl bt vw vtk nt ws who place top h w ∧ w.ownsRow w0.heap.size 3 1 v5 nt ((getsL ws nt h (k : Int).toNat).map (.int .i64))) ∧ Fr 94 [(0, .pointer (some ⟨gl, 0, none⟩)), (1, .int .i64 h.length), (5, v5), (28, vw), (29, .int .i64 nt), (30, .int .i64 k)] a) (sel [1, 1, 1, 0, 1, 4, 4, 1, 1, 0] wyP) (fun a w => ∃ (v5 : Value), (0 ≤ k ∧ k < nt) ∧ (Wy w0 gl bt vw vtk nt ws who place top h w ∧ w.ownsRow w0.heap.size 3 1 v5 nt ((getsL ws nt h ((k + 1) : Int).toNat).map (.int .i64))) ∧ Fr 94 [(0, .pointer (some ⟨gl, 0, none⟩)), (1, .int .i64 h.length), (5, v5), (28, vw), (29, .int .i64 nt), (30, .int .i64 k)] a) No 9 No := T3.block (id' := 1) (c := (sel [1, 1, 1, 0, 1, 4, 4, 1, 1, 0, 4] wyP)) (by decide) (T3.seq (s := (sel [1, 1, 1, 0, 1, 4, 4, 1, 1, 0, 4, 0] wyP)) (c := (sel [1, 1, 1, 0, 1, 4, 4, 1, 1, 0, 4, 1] wyP)) (wy6 w0 gl bt vw vtk nt ws who place top h c k) (wy7 w0 gl bt vw vtk nt ws who place top h c k))

def wyaI (w0 : World) (gl bt : Nat) (vw vtk : Value) (nt : Nat) (ws : List Int) (who place top : Nat) (h : List Nat) (c : Wc w0 gl bt vw vtk nt ws who place top h) (k : Int) (a : Act) (w : World) : Prop := (0 ≤ k ∧ k ≤ nt) ∧ ∃ (v5 : Value), (Wy w0 gl bt vw vtk nt ws who place top h w ∧ w.ownsRow w0.heap.size 3 1 v5 nt ((getsL ws nt h (k : Int).toNat).map (.int .i64))) ∧ Fr 94 [(0, .pointer (some ⟨gl, 0, none⟩)), (1, .int .i64 h.length), (5, v5), (28, vw), (29, .int .i64 nt), (30, .int .i64 k)] a
set_option maxRecDepth 100000 in
set_option maxHeartbeats 1000000 in
theorem wyat (w0 : World) (gl bt : Nat) (vw vtk : Value) (nt : Nat) (ws : List Int) (who place top : Nat) (h : List Nat) (c : Wc w0 gl bt vw vtk nt ws who place top h) (k : Int) : T3 Try.prog (fun a w => wyaI w0 gl bt vw vtk nt ws who place top h c k a w) (sel [1, 1, 1, 0, 1, 4, 4, 0] wyP) (fun a w => ∃ q, Fr 94 ((31, .bool q) :: [(30, .int .i64 k)]) a ∧ ((q = true ↔ k < nt) ∧ wyaI w0 gl bt vw vtk nt ws who place top h c k a w)) No 9 No := by
  refine T3.leaf ?_
  rintro Q JS JX JT K hS hK hX hE hT hR a w ⟨hk, v5, hW, ⟨fr, rfl, q0, q1, q5, q28, q29, q30, _⟩⟩
  have n14 := c.f.n14
  rw [fr_wyP, show fr 0 = _ from q0, show fr 1 = _ from q1, show fr 5 = _ from q5, show fr 28 = _ from q28, show fr 29 = _ from q29, show fr 30 = _ from q30]
  clear q0 q1 q5 q28 q29 q30
  conv => arg 2; whnf
  by_cases hlt : k < nt
  · go_wp2_with fail
    refine Met.intro (hS _ _ ?_)
    exact ⟨true, Fr.of _ rfl ⟨rfl, rfl, trivial⟩, ⟨fun _ => hlt, fun _ => rfl⟩, hk, v5, hW, Fr.of _ rfl ⟨rfl, rfl, rfl, rfl, rfl, rfl, trivial⟩⟩
  · have hpb : decide (k < (nt)) = false := by simp; omega
    go_wp2_with fail
    refine Met.intro (hS _ _ ?_)
    exact ⟨false, Fr.of _ rfl ⟨rfl, rfl, trivial⟩, ⟨(fun h => by cases h), fun h => absurd h (by omega)⟩, hk, v5, hW, Fr.of _ rfl ⟨rfl, rfl, rfl, rfl, rfl, rfl, trivial⟩⟩

set_option maxRecDepth 100000 in
set_option maxHeartbeats 1000000 in
theorem wyan (w0 : World) (gl bt : Nat) (vw vtk : Value) (nt : Nat) (ws : List Int) (who place top : Nat) (h : List Nat) (c : Wc w0 gl bt vw vtk nt ws who place top h) (k : Int) : T3 Try.prog (fun a w => (0 ≤ k ∧ k < nt) ∧ ∃ (v5 : Value), (Wy w0 gl bt vw vtk nt ws who place top h w ∧ w.ownsRow w0.heap.size 3 1 v5 nt ((getsL ws nt h ((k + 1) : Int).toNat).map (.int .i64))) ∧ Fr 94 [(0, .pointer (some ⟨gl, 0, none⟩)), (1, .int .i64 h.length), (5, v5), (28, vw), (29, .int .i64 nt), (30, .int .i64 k)] a) (sel [1, 1, 1, 0, 1, 4, 4, 1, 1, 1] wyP) (fun a w => wyaI w0 gl bt vw vtk nt ws who place top h c (k + 1) a w) No 9 No := by
  refine T3.leaf ?_
  rintro Q JS JX JT K hS hK hX hE hT hR a w ⟨hk, v5, hW, ⟨fr, rfl, q0, q1, q5, q28, q29, q30, _⟩⟩
  obtain ⟨hk0, hk1⟩ := hk
  have n14 := c.f.n14
  rw [fr_wyP, show fr 0 = _ from q0, show fr 1 = _ from q1, show fr 5 = _ from q5, show fr 28 = _ from q28, show fr 29 = _ from q29, show fr 30 = _ from q30]
  clear q0 q1 q5 q28 q29 q30
  conv => arg 2; whnf
  go_wp2_with fail
  refine Met.intro (hS _ _ ?_)
  exact ⟨⟨by omega, by omega⟩, v5, hW, Fr.of _ rfl ⟨rfl, rfl, rfl, rfl, rfl, rfl, trivial⟩⟩

set_option maxRecDepth 100000 in
set_option maxHeartbeats 1000000 in
theorem wyaloop (w0 : World) (gl bt : Nat) (vw vtk : Value) (nt : Nat) (ws : List Int) (who place top : Nat) (h : List Nat) (c : Wc w0 gl bt vw vtk nt ws who place top h) : T3 Try.prog (fun a w => wyaI w0 gl bt vw vtk nt ws who place top h c 0 a w) (sel [1, 1, 1, 0, 1] wyP) (fun a w => ∃ (v5 : Value), (Wy w0 gl bt vw vtk nt ws who place top h w ∧ w.ownsRow w0.heap.size 3 1 v5 nt ((getsL ws nt h nt).map (.int .i64))) ∧ Fr 94 [(0, .pointer (some ⟨gl, 0, none⟩)), (1, .int .i64 h.length), (5, v5)] a) No 9 No := by
  refine T3.loop (c := (sel [1, 1, 1, 0, 1, 4, 4] wyP)) (fun ng_ a w => ∃ k : Int, (ng_ : Int) = nt - k ∧ wyaI w0 gl bt vw vtk nt ws who place top h c k a w) (fun a w h => ⟨(nt : Int).toNat, 0, by have := h.1.2; omega, h⟩) (fun ng_ => T3.ex fun k => T3.pure fun hng_ => ?_)
  refine T3.seq (s := (sel [1, 1, 1, 0, 1, 4, 4, 0] wyP)) (c := (sel [1, 1, 1, 0, 1, 4, 4, 1] wyP)) ((wyat w0 gl bt vw vtk nt ws who place top h c k).noX) ?_
  refine T3.seq (s := (sel [1, 1, 1, 0, 1, 4, 4, 1, 0] wyP)) (c := (sel [1, 1, 1, 0, 1, 4, 4, 1, 1] wyP)) (S := fun a w => (0 ≤ k ∧ k < nt) ∧ ∃ (v5 : Value), (Wy w0 gl bt vw vtk nt ws who place top h w ∧ w.ownsRow w0.heap.size 3 1 v5 nt ((getsL ws nt h (k : Int).toNat).map (.int .i64))) ∧ Fr 94 [(0, .pointer (some ⟨gl, 0, none⟩)), (1, .int .i64 h.length), (5, v5), (28, vw), (29, .int .i64 nt), (30, .int .i64 k)] a) ?_ (T3.seq (s := (sel [1, 1, 1, 0, 1, 4, 4, 1, 1, 0] wyP)) (c := (sel [1, 1, 1, 0, 1, 4, 4, 1, 1, 1] wyP)) (S := fun a w => (0 ≤ k ∧ k < nt) ∧ ∃ (v5 : Value), (Wy w0 gl bt vw vtk nt ws who place top h w ∧ w.ownsRow w0.heap.size 3 1 v5 nt ((getsL ws nt h ((k + 1) : Int).toNat).map (.int .i64))) ∧ Fr 94 [(0, .pointer (some ⟨gl, 0, none⟩)), (1, .int .i64 h.length), (5, v5), (28, vw), (29, .int .i64 nt), (30, .int .i64 k)] a) (T3.noX (T3.mono (R' := fun a w => (0 ≤ k ∧ k < nt) ∧ ∃ (v5 : Value), (Wy w0 gl bt vw vtk nt ws who place top h w ∧ w.ownsRow w0.heap.size 3 1 v5 nt ((getsL ws nt h (k : Int).toNat).map (.int .i64))) ∧ Fr 94 [(0, .pointer (some ⟨gl, 0, none⟩)), (1, .int .i64 h.length), (5, v5), (28, vw), (29, .int .i64 nt), (30, .int .i64 k)] a) (S' := fun a w => (0 ≤ k ∧ k < nt) ∧ ∃ (v5 : Value), (Wy w0 gl bt vw vtk nt ws who place top h w ∧ w.ownsRow w0.heap.size 3 1 v5 nt ((getsL ws nt h ((k + 1) : Int).toNat).map (.int .i64))) ∧ Fr 94 [(0, .pointer (some ⟨gl, 0, none⟩)), (1, .int .i64 h.length), (5, v5), (28, vw), (29, .int .i64 nt), (30, .int .i64 k)] a) (wyb w0 gl bt vw vtk nt ws who place top h c k) (fun a w ⟨hk, v5, hI⟩ => ⟨v5, hk, hI⟩) (fun a w ⟨v5, hk, hI⟩ => ⟨hk, v5, hI⟩) (fun _ _ q => q) (fun _ _ q => q))) ?_)
  · refine T3.cond (o := .tmp 31) (x := .skip) (y := .exit 0) (fun a w => k < nt ∧ wyaI w0 gl bt vw vtk nt ws who place top h c k a w) (fun a w => ¬ k < nt ∧ wyaI w0 gl bt vw vtk nt ws who place top h c k a w) ?_ (T3.skip ?_) (T3.exit ?_)
    · rintro a w ⟨q, hF, hq, hI⟩
      have he := hF.eval 31 (by decide) (v := .bool q) (by simp)
      cases q
      · exact .inr ⟨he, (fun h => by have := hq.2 h; cases this), hI⟩
      · exact .inl ⟨he, hq.1 rfl, hI⟩
    · rintro a w ⟨hlt, hk, hI⟩
      exact ⟨⟨hk.1, hlt⟩, hI⟩
    · rintro a w ⟨hlt, hk, hI⟩
      obtain rfl : k = nt := by omega
      obtain ⟨v5, hW, hF⟩ := hI
      rw [show ((nt : Nat) : Int).toNat = nt by omega] at hW
      exact ⟨v5, hW, hF.sub (by simp)⟩
  · intro a w hx
    have hk := hx.1
    exact (((wyan w0 gl bt vw vtk nt ws who place top h c k).noX).post (fun a w q => ⟨ng_ - 1, by omega, k + 1, by omega, q⟩)) a w hx
end Go.Proofs.Ytkdimgghljklmaa
/-
  Lots: the program's count of ways: the loop that counts, its first pieces. Conditions: right weights.
-/
set_option linter.unusedVariables false
namespace Go.Proofs.Ytkdimgghljklmaa
open Go.RowKit Go.Bw
/-- One term of the count. -/
def termF (ws : List Int) (nt place who m : Nat) (h : List Nat) (j : Nat) : Int :=
  if getsF (fun i => geti ws (i : Int)) nt h j = 0 ∨ ¬(j = who ↔ h.length = place) then 0 else getsF (fun i => geti ws (i : Int)) nt h j * wayF (fun i => geti ws (i : Int)) nt place who m (h ++ [j])
def outTo (ws : List Int) (nt place who m : Nat) (h : List Nat) (k : Nat) : Int := sumN k (termF ws nt place who m h)
theorem outTo_all (ws : List Int) (nt place who m : Nat) (h : List Nat) : outTo ws nt place who m h nt = wayF (fun i => geti ws (i : Int)) nt place who (m + 1) h := by
  unfold outTo
  conv => rhs; unfold wayF
  rfl
theorem outTo_succ (ws : List Int) (nt place who m : Nat) (h : List Nat) (k : Int) (h0 : 0 ≤ k) : outTo ws nt place who m h (k + 1).toNat = outTo ws nt place who m h k.toNat + termF ws nt place who m h k.toNat := by
  unfold outTo
  rw [show (k + 1).toNat = k.toNat + 1 by omega, sumN_succ]
set_option maxRecDepth 100000 in
set_option maxHeartbeats 1000000 in
theorem wy9 (w0 : World) (gl bt : Nat) (vw vtk : Value) (nt : Nat) (ws : List Int) (who place top : Nat) (h : List Nat) (c : Wc w0 gl bt vw vtk nt ws who place top h) (m : Nat) (v5 : Value) : T3 Try.prog (fun a w => (Wy w0 gl bt vw vtk nt ws who place top h w ∧ w.ownsRow w0.heap.size 3 1 v5 nt ((getsL ws nt h nt).map (.int .i64))) ∧ Fr 94 [(0, .pointer (some ⟨gl, 0, none⟩)), (1, .int .i64 h.length), (5, v5)] a) (sel [1, 1, 1, 1, 0] wyP) (fun a w => (Wy w0 gl bt vw vtk nt ws who place top h w ∧ w.ownsRow w0.heap.size 3 1 v5 nt ((getsL ws nt h nt).map (.int .i64))) ∧ Fr 94 [(0, .pointer (some ⟨gl, 0, none⟩)), (1, .int .i64 h.length), (5, v5), (8, .int .i64 0)] a) No 9 No := by
  refine T3.leaf ?_
  rintro Q JS JX JT K hS hK hX hE hT hR a w ⟨hW, ⟨fr, rfl, q0, q1, q5, _⟩⟩
  rw [fr_wyP, show fr 0 = _ from q0, show fr 1 = _ from q1, show fr 5 = _ from q5]
  clear q0 q1 q5
  conv => arg 2; whnf
  go_wp2_with fail
  refine Met.intro (hS _ _ ?_)
  exact ⟨hW, Fr.of _ rfl ⟨rfl, rfl, rfl, rfl, trivial⟩⟩

set_option maxRecDepth 100000 in
set_option maxHeartbeats 1000000 in
theorem wy10 (w0 : World) (gl bt : Nat) (vw vtk : Value) (nt : Nat) (ws : List Int) (who place top : Nat) (h : List Nat) (c : Wc w0 gl bt vw vtk nt ws who place top h) (m : Nat) (v5 : Value) : T3 Try.prog (fun a w => (Wy w0 gl bt vw vtk nt ws who place top h w ∧ w.ownsRow w0.heap.size 3 1 v5 nt ((getsL ws nt h nt).map (.int .i64))) ∧ Fr 94 [(0, .pointer (some ⟨gl, 0, none⟩)), (1, .int .i64 h.length), (5, v5), (8, .int .i64 0)] a) (sel [1, 1, 1, 1, 1, 0, 0] wyP) (fun a w => (0 ≤ (0 : Int) ∧ (0 : Int) ≤ nt) ∧ (Wy w0 gl bt vw vtk nt ws who place top h w ∧ w.ownsRow w0.heap.size 3 1 v5 nt ((getsL ws nt h nt).map (.int .i64))) ∧ Fr 94 [(0, .pointer (some ⟨gl, 0, none⟩)), (1, .int .i64 h.length), (5, v5), (8, .int .i64 (outTo ws nt place who m h (0 : Int).toNat)), (48, v5), (49, .int .i64 nt), (50, .int .i64 0)] a) No 9 No := by
  refine T3.leaf ?_
  rintro Q JS JX JT K hS hK hX hE hT hR a w ⟨hW, ⟨fr, rfl, q0, q1, q5, q8, _⟩⟩
  obtain ⟨p5, c5, hv5⟩ := (Row.of_owns hW.2).shape
  subst hv5
  rw [fr_wyP, show fr 0 = _ from q0, show fr 1 = _ from q1, show fr 5 = _ from q5, show fr 8 = _ from q8]
  clear q0 q1 q5 q8
  conv => arg 2; whnf
  go_wp2_with fail
  refine Met.intro (hS _ _ ?_)
  exact ⟨⟨by omega, by omega⟩, hW, Fr.of _ rfl ⟨rfl, rfl, rfl, rfl, rfl, rfl, rfl, trivial⟩⟩

set_option maxRecDepth 100000 in
set_option maxHeartbeats 1000000 in
theorem wy12 (w0 : World) (gl bt : Nat) (vw vtk : Value) (nt : Nat) (ws : List Int) (who place top : Nat) (h : List Nat) (c : Wc w0 gl bt vw vtk nt ws who place top h) (m : Nat) (v5 : Value) (k : Int) : T3 Try.prog (fun a w => (0 ≤ k ∧ k < nt) ∧ (Wy w0 gl bt vw vtk nt ws who place top h w ∧ w.ownsRow w0.heap.size 3 1 v5 nt ((getsL ws nt h nt).map (.int .i64))) ∧ Fr 94 [(0, .pointer (some ⟨gl, 0, none⟩)), (1, .int .i64 h.length), (5, v5), (8, .int .i64 (outTo ws nt place who m h (k : Int).toNat)), (48, v5), (49, .int .i64 nt), (50, .int .i64 k)] a) (sel [1, 1, 1, 1, 1, 0, 1, 4, 4, 1, 1, 0, 4, 0] wyP) (fun a w => (0 ≤ k ∧ k < nt) ∧ (Wy w0 gl bt vw vtk nt ws who place top h w ∧ w.ownsRow w0.heap.size 3 1 v5 nt ((getsL ws nt h nt).map (.int .i64))) ∧ Fr 94 [(0, .pointer (some ⟨gl, 0, none⟩)), (1, .int .i64 h.length), (5, v5), (8, .int .i64 (outTo ws nt place who m h (k : Int).toNat)), (9, .int .i64 k), (10, .int .i64 (geti (getsL ws nt h nt) k)), (48, v5), (49, .int .i64 nt), (50, .int .i64 k)] a) No 9 No := by
  refine T3.leaf ?_
  rintro Q JS JX JT K hS hK hX hE hT hR a w ⟨hpre, hW, ⟨fr, rfl, q0, q1, q5, q8, q48, q49, q50, _⟩⟩
  obtain ⟨hk0, hk1⟩ := hpre
  have n14 := c.f.n14
  obtain ⟨_, hcs⟩ := (Row.of_owns hW.2).ints
  rcases hcs with ⟨rfl, h0⟩ | ⟨bz, off, cap, rfl, _, hbz, hnc, hcm, hcell⟩
  · omega
  have t0 := hcell k hk0 hk1
  clear hcell
  rw [fr_wyP, show fr 0 = _ from q0, show fr 1 = _ from q1, show fr 5 = _ from q5, show fr 8 = _ from q8, show fr 48 = _ from q48, show fr 49 = _ from q49, show fr 50 = _ from q50]
  clear q0 q1 q5 q8 q48 q49 q50
  conv => arg 2; whnf
  go_wp2_with fail
  refine Met.intro (hS _ _ ?_)
  exact ⟨⟨hk0, hk1⟩, hW, Fr.of _ rfl ⟨rfl, rfl, rfl, rfl, rfl, rfl, rfl, rfl, rfl, trivial⟩⟩

set_option maxRecDepth 100000 in
set_option maxHeartbeats 1000000 in
theorem wy13 (w0 : World) (gl bt : Nat) (vw vtk : Value) (nt : Nat) (ws : List Int) (who place top : Nat) (h : List Nat) (c : Wc w0 gl bt vw vtk nt ws who place top h) (m : Nat) (v5 : Value) (k : Int) : T3 Try.prog (fun a w => (0 ≤ k ∧ k < nt) ∧ (Wy w0 gl bt vw vtk nt ws who place top h w ∧ w.ownsRow w0.heap.size 3 1 v5 nt ((getsL ws nt h nt).map (.int .i64))) ∧ Fr 94 [(0, .pointer (some ⟨gl, 0, none⟩)), (1, .int .i64 h.length), (5, v5), (8, .int .i64 (outTo ws nt place who m h (k : Int).toNat)), (9, .int .i64 k), (10, .int .i64 (geti (getsL ws nt h nt) k)), (48, v5), (49, .int .i64 nt), (50, .int .i64 k)] a) (sel [1, 1, 1, 1, 1, 0, 1, 4, 4, 1, 1, 0, 4, 1, 0, 0] wyP) (fun a w => ∃ q, Fr 94 ((71, .bool q) :: [(0, .pointer (some ⟨gl, 0, none⟩)), (1, .int .i64 h.length), (5, v5), (8, .int .i64 (outTo ws nt place who m h (k : Int).toNat)), (9, .int .i64 k), (10, .int .i64 (geti (getsL ws nt h nt) k)), (48, v5), (49, .int .i64 nt), (50, .int .i64 k)]) a ∧ (((0 ≤ k ∧ k < nt) ∧ q = (geti (getsL ws nt h nt) k == 0 || ((k == (who : Int)) != ((h.length : Int) == (place : Int))))) ∧ Wy w0 gl bt vw vtk nt ws who place top h w ∧ w.ownsRow w0.heap.size 3 1 v5 nt ((getsL ws nt h nt).map (.int .i64)))) No 9 No := by
  refine T3.leafN ?_
  rintro JS hS a w ⟨hpre, ⟨hW, hO⟩, ⟨fr, rfl, q0, q1, q5, q8, q9, q10, q48, q49, q50, _⟩⟩
  have hpp := Lib.hid hpre
  have x1 := hW.c1
  have x2 := hW.c2
  have HW := Lib.hid (hW.below (below_drewN (Below.refl _ _) 1))
  have HO := Lib.hid (owns_below hO (below_drewN (Below.refl w.heap.size w) 1) (Nat.le_refl _))
  clear hW hO hpre
  generalize geti (getsL ws nt h nt) k = g at *
  generalize hL : (h.length : Int) = hl at *
  generalize hWW : (who : Int) = ww at *
  generalize hPP : (place : Int) = pp at *
  by_cases h0 : g = 0
  · subst h0
    rw [fr_wyP, show fr 0 = _ from q0, show fr 1 = _ from q1, show fr 5 = _ from q5, show fr 8 = _ from q8, show fr 9 = _ from q9, show fr 10 = _ from q10, show fr 48 = _ from q48, show fr 49 = _ from q49, show fr 50 = _ from q50]
    clear q0 q1 q5 q8 q9 q10 q48 q49 q50
    conv => arg 2; whnf
    refine wp_region_mix (none) [(true, 0), (true, 1), (true, 2), (true, 3), (true, 4), (true, 5), (true, 6), (true, 7), (true, 8), (true, 9), (true, 10), (true, 11), (true, 12), (true, 13), (true, 14), (true, 15), (true, 16)] (by kernel_rfl) (by kernel_rfl) (by intro c a d v w h; cases d <;> exact h) ?_
    simp only [pickFlat, List.filterMap_cons, List.filterMap_nil, List.getElem?_cons_succ, List.getElem?_cons_zero, Option.map_some]
    have A1 := wof_at (w₁ := w.drew) (row := none) (a := ⟨gl, 1, none⟩) x1 (by simp)
    have A2 := wof_at (w₁ := w.drew) (row := none) (a := ⟨gl, 2, none⟩) x2 (by simp)
    refine flat_hide (fun W hH hC hN hE => ?_)
    iterate 17 (refine hH.out _ _ _ _ (fun K hK => ?_); go_simp; refine hK _ ?_; clear hK K)
    refine hE.out _ _ ?_
    clear hH hC hN hE W
    show JS _ _
    refine hS _ _ ?_
    exact ⟨true, Fr.of _ rfl ⟨rfl, rfl, rfl, rfl, rfl, rfl, rfl, rfl, rfl, rfl, trivial⟩, ⟨hpp.out, by simp⟩, ⟨HW.out, HO.out⟩⟩
  · have hz : (g == 0) = false := by simp [h0]
    have HZ := Lib.hid hz
    clear h0
    rw [fr_wyP, show fr 0 = _ from q0, show fr 1 = _ from q1, show fr 5 = _ from q5, show fr 8 = _ from q8, show fr 9 = _ from q9, show fr 10 = _ from q10, show fr 48 = _ from q48, show fr 49 = _ from q49, show fr 50 = _ from q50]
    clear q0 q1 q5 q8 q9 q10 q48 q49 q50
    conv => arg 2; whnf
    refine wp_region_mix (none) [(true, 0), (true, 1), (true, 2), (true, 3), (true, 4), (true, 5), (true, 6), (true, 7), (true, 8), (true, 9), (true, 10), (true, 11), (true, 12), (true, 13), (true, 14), (true, 15), (true, 16)] (by kernel_rfl) (by kernel_rfl) (by intro c a d v w h; cases d <;> exact h) ?_
    simp only [pickFlat, List.filterMap_cons, List.filterMap_nil, List.getElem?_cons_succ, List.getElem?_cons_zero, Option.map_some]
    have A1 := wof_at (w₁ := w.drew) (row := none) (a := ⟨gl, 1, none⟩) x1 (by simp)
    have A2 := wof_at (w₁ := w.drew) (row := none) (a := ⟨gl, 2, none⟩) x2 (by simp)
    refine flat_hide (fun W hH hC hN hE => ?_)
    iterate 17 (refine hH.out _ _ _ _ (fun K hK => ?_); go_simp; refine hK _ ?_; clear hK K)
    refine hE.out _ _ ?_
    clear hH hC hN hE W
    show JS _ _
    refine hS _ _ ?_
    exact ⟨_, Fr.of _ rfl ⟨rfl, rfl, rfl, rfl, rfl, rfl, rfl, rfl, rfl, rfl, trivial⟩, ⟨hpp.out, by rw [HZ.out, Bool.false_or]; rfl⟩, ⟨HW.out, HO.out⟩⟩

end Go.Proofs.Ytkdimgghljklmaa
/-
  Lots: stores into the row of who has a place. No condition on a program.
-/
set_option linter.unusedVariables false
namespace Go.Proofs.Ytkdimgghljklmaa
open Go.RowKit Go.Bw
/-- A store into an owned row of one cell a thing. -/
theorem owns_put {w : World} {base e n g cap : Nat} {xs : List Value} (h : w.ownsRow base e 1 (.slice (some ⟨g, 0, none⟩) n cap) n xs) (i : Nat) (u : Value) :
    (w.setCell ⟨g, i, none⟩ u).ownsRow base e 1 (.slice (some ⟨g, 0, none⟩) n cap) n (xs.set i u) := by
  obtain ⟨h1, h2⟩ := h
  refine ⟨by simpa using h1, ?_⟩
  rcases h2 with ⟨h2, _⟩ | ⟨g', cap', cur, hv, hb, hg, hn, hc, hs, ht⟩
  · cases h2
  · simp only [Value.slice.injEq, Option.some.injEq, Addr.mk.injEq] at hv
    obtain ⟨⟨rfl, _⟩, _, rfl⟩ := hv
    refine .inr ⟨g, cap, cur.setIfInBounds i u, rfl, hb, ?_, hn, hc, by simpa using hs, ?_⟩
    · have hlt := (Array.getElem?_eq_some_iff.1 hg).1
      simp only [World.setCell, Array.getElem?_modify, if_true, hg, Option.map_some]
      rfl
    · rw [← ht, Array.toList_setIfInBounds]
      exact List.take_set.symm ▸ rfl
theorem takenC_unset (n : Nat) (h : List Nat) (j : Nat) (hj : j < n) (hc : h.contains j = false) : (takenC n (h ++ [j])).set j (.bool false) = takenC n h := by
  unfold takenC
  apply List.ext_getElem
  · simp
  · intro i h1 h2
    by_cases hij : j = i
    · subst hij
      simp only [List.getElem_set_self, List.getElem_map, List.getElem_range]
      rw [hc]
    · rw [List.getElem_set_ne hij]
      simp [Ne.symm hij]
section
variable {w0 w : World} {gl bt n who place top g c j : Nat} {vw : Value} {ws : List Int} {h : List Nat}
theorem Wy.take (l : Wy w0 gl bt vw (.slice (some ⟨g, 0, none⟩) n c) n ws who place top h w) (hj : j < n) : Wy w0 gl bt vw (.slice (some ⟨g, 0, none⟩) n c) n ws who place top (h ++ [j]) (w.setCell ⟨g, j, none⟩ (.bool true)) :=
  l.grow (grown_setCell w g j _) (by rw [← takenC_set n h j hj]; exact owns_put l.tk j _)
theorem Wy.free (l : Wy w0 gl bt vw (.slice (some ⟨g, 0, none⟩) n c) n ws who place top (h ++ [j]) w) (hj : j < n) (hc : h.contains j = false) : Wy w0 gl bt vw (.slice (some ⟨g, 0, none⟩) n c) n ws who place top h (w.setCell ⟨g, j, none⟩ (.bool false)) :=
  l.grow (grown_setCell w g j _) (by rw [← takenC_unset n h j hj hc]; exact owns_put l.tk j _)
end
end Go.Proofs.Ytkdimgghljklmaa
/-
  Lots: the program's count of ways: the store ahead of the call of itself. Conditions: right weights.
-/
set_option linter.unusedVariables false
namespace Go.Proofs.Ytkdimgghljklmaa
open Go.RowKit Go.Bw
set_option maxRecDepth 100000 in
set_option maxHeartbeats 1000000 in
theorem wy14 (w0 : World) (gl bt : Nat) (vw vtk : Value) (nt : Nat) (ws : List Int) (who place top : Nat) (h : List Nat) (c : Wc w0 gl bt vw vtk nt ws who place top h) (m : Nat) (v5 : Value) (k : Int) : T3 Try.prog (fun a w => (0 ≤ k ∧ k < nt) ∧ (Wy w0 gl bt vw vtk nt ws who place top h w ∧ w.ownsRow w0.heap.size 3 1 v5 nt ((getsL ws nt h nt).map (.int .i64))) ∧ Fr 94 [(0, .pointer (some ⟨gl, 0, none⟩)), (1, .int .i64 h.length), (5, v5), (8, .int .i64 (outTo ws nt place who m h (k : Int).toNat)), (9, .int .i64 k), (10, .int .i64 (geti (getsL ws nt h nt) k)), (48, v5), (49, .int .i64 nt), (50, .int .i64 k)] a) (sel [1, 1, 1, 1, 1, 0, 1, 4, 4, 1, 1, 0, 4, 1, 1, 0] wyP) (fun a w => (0 ≤ k ∧ k < nt) ∧ (Wy w0 gl bt vw vtk nt ws who place top (h ++ [k.toNat]) w ∧ w.ownsRow w0.heap.size 3 1 v5 nt ((getsL ws nt h nt).map (.int .i64))) ∧ Fr 94 [(0, .pointer (some ⟨gl, 0, none⟩)), (1, .int .i64 h.length), (5, v5), (8, .int .i64 (outTo ws nt place who m h (k : Int).toNat)), (9, .int .i64 k), (10, .int .i64 (geti (getsL ws nt h nt) k)), (48, v5), (49, .int .i64 nt), (50, .int .i64 k)] a) No 9 No := by
  refine T3.leaf ?_
  rintro Q JS JX JT K hS hK hX hE hT hR a w ⟨hpre, ⟨hW, hO⟩, ⟨fr, rfl, q0, q1, q5, q8, q9, q10, q48, q49, q50, _⟩⟩
  have hpp := Lib.hid hpre
  obtain ⟨hk0, hk1⟩ := hpre
  have x4 := hW.c4
  have n14 := c.f.n14
  obtain ⟨g, cc, hv, hgb, hgl, _⟩ := owns_shape hW.tk (by omega)
  subst hv
  have hfz := ints_frozen hW.tk k.toNat
  have hcl := hW.tk.cells (g := g) rfl k.toNat _ (takenC_at nt h k.toNat (by omega))
  rw [Addr.add_lit, Nat.zero_add] at hcl
  have HW := Lib.hid (hW.take (j := k.toNat) (by omega))
  have HO := Lib.hid (own_app hO hW.tk (by decide) (grown_setCell w g k.toNat (.bool true)))
  clear hW hO
  rw [fr_wyP, show fr 0 = _ from q0, show fr 1 = _ from q1, show fr 5 = _ from q5, show fr 8 = _ from q8, show fr 9 = _ from q9, show fr 10 = _ from q10, show fr 48 = _ from q48, show fr 49 = _ from q49, show fr 50 = _ from q50]
  clear q0 q1 q5 q8 q9 q10 q48 q49 q50
  conv => arg 2; whnf
  go_wp2_with fail
  refine Met.intro (hS _ _ ?_)
  exact ⟨hpp.out, ⟨HW.out, HO.out⟩, Fr.of _ rfl ⟨rfl, rfl, rfl, rfl, rfl, rfl, rfl, rfl, rfl, trivial⟩⟩

end Go.Proofs.Ytkdimgghljklmaa
