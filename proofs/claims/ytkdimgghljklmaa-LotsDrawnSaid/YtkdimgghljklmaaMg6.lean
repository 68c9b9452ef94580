/-
  Contracts and lemmas towards the statement, of several parts; each part says ahead of it what it holds and under which conditions.
-/
import Derived.Test.YtkdimgghljklmaaMg5
import Derived.Test.YtkdimgghljklmaaMg4
/-
  Lots: with which probability a team gets a place, the program's Chance. Conditions: strings are no longer than Go's; at most 1000 teams and weights.
-/
set_option linter.unusedVariables false
namespace Go.Proofs.Ytkdimgghljklmaa
open Go.RowKit Go.Bw
theorem row_lt {w : World} {b sz n : Nat} {v : Value} {cs : List Value} (h : Row w b sz v n cs) : ∀ k, v.ownBlock = some k → k < w.heap.size := by
  intro k hk
  rcases h.2 with ⟨rfl, _⟩ | ⟨b, off, cap, rfl, _, hlt, _⟩
  · cases hk
  · cases hk; exact hlt
/-- The number of a string among strings; below 0 if it is not there. -/
def whoI (ts : List ByteArray) (x : ByteArray) : Int := Lib.idxOfS ts x
theorem idxFromS_lt (x : ByteArray) : ∀ (zs : List ByteArray) (i : Nat), Lib.idxFromS zs x i < (i : Int) + zs.length
  | [], i => by unfold Lib.idxFromS; simp; omega
  | z :: zs, i => by
    unfold Lib.idxFromS
    split
    · simp; omega
    · have := idxFromS_lt x zs (i + 1)
      simp at this ⊢; omega
theorem whoI_lt (ts : List ByteArray) (x : ByteArray) : whoI ts x < ts.length := by
  have := idxFromS_lt x ts 0
  unfold whoI Lib.idxOfS
  omega
theorem whoI_has (ts : List ByteArray) (x : ByteArray) : hasS ts x = decide (0 ≤ whoI ts x) := rfl
theorem index_str (v : Value) (n : Nat) (zs : List ByteArray) (x : ByteArray) (base : Nat) (w : World) (h : Row w base 1 v n (cellsOf encSt zs)) :
    Calls Try.prog 41 #[v, .string x] w fun e w' => e = .returned (.int .i64 (whoI zs x)) ∧ w = w' := by
  obtain ⟨hl, hc⟩ := h.els encSt_length (by decide)
  subst hl
  rcases hc with ⟨rfl, h0⟩ | ⟨b, off, cap, rfl, _, hbs, hnc, hcm, hcell⟩
  · refine (Try.slices_Index_string_empty none 0 x w).mono ?_
    rintro e w' ⟨rfl, rfl⟩
    have : zs = [] := List.length_eq_zero_iff.1 h0
    subst this
    exact ⟨rfl, rfl⟩
  · refine (Try.slices_Index_string b off zs.length cap zs x w (Nat.le_refl _) (by omega) (fun j hj => ?_)).mono ?_
    · have := hcell (j : Int) (by omega) (by omega) 0 _ rfl
      rw [geta_eq zs j (by omega) (by omega)] at this
      simpa [List.getD, hj] using this
    · rintro e w' ⟨rfl, rfl⟩
      rw [List.take_length]
      exact ⟨rfl, rfl⟩
/-- What is wrong with the question. -/
def chanceE (ts : List ByteArray) (ws : List Int) (team : ByteArray) (place top : Int) : Int :=
  if topE ts ws top ≠ 0 then topE ts ws top else if hasS ts team = false then 8 else if outB place 1 ts.length = true then 1 else 0
def wayV (ts : List ByteArray) (ws : List Int) (team : ByteArray) (place top : Int) : Int := wayF (fun i => geti ws (i : Int)) ts.length (place - 1).toNat (whoI ts team).toNat top.toNat []
def chN (ts : List ByteArray) (ws : List Int) (team : ByteArray) (place top : Int) : Int := if chanceE ts ws team place top = 0 then fN (wayV ts ws team place top) (ws.sum ^ top.toNat) else 0
def chD (ts : List ByteArray) (ws : List Int) (team : ByteArray) (place top : Int) : Int := if chanceE ts ws team place top = 0 then fD (wayV ts ws team place top) (ws.sum ^ top.toNat) else 0
theorem ch_top {ts : List ByteArray} {ws : List Int} {team : ByteArray} {place top : Int} (h : topE ts ws top ≠ 0) : chanceE ts ws team place top = topE ts ws top := by unfold chanceE; rw [if_pos h]
theorem ch_none {ts : List ByteArray} {ws : List Int} {team : ByteArray} {place top : Int} (h : topE ts ws top = 0) (h2 : hasS ts team = false) : chanceE ts ws team place top = 8 := by unfold chanceE; rw [if_neg (by simp [h]), if_pos h2]
theorem ch_arg {ts : List ByteArray} {ws : List Int} {team : ByteArray} {place top : Int} (h : topE ts ws top = 0) (h2 : hasS ts team = true) (h3 : outB place 1 ts.length = true) : chanceE ts ws team place top = 1 := by unfold chanceE; rw [if_neg (by simp [h]), if_neg (by simp [h2]), if_pos h3]
theorem ch_ok {ts : List ByteArray} {ws : List Int} {team : ByteArray} {place top : Int} (h : topE ts ws top = 0) (h2 : hasS ts team = true) (h3 : outB place 1 ts.length = false) : chanceE ts ws team place top = 0 := by unfold chanceE; rw [if_neg (by simp [h]), if_neg (by simp [h2]), if_neg (by simp [h3])]
theorem ch_bad {ts : List ByteArray} {ws : List Int} {team : ByteArray} {place top : Int} (h : chanceE ts ws team place top ≠ 0) : chN ts ws team place top = 0 ∧ chD ts ws team place top = 0 := by
  unfold chN chD
  rw [if_neg h, if_neg h]
  exact ⟨rfl, rfl⟩
theorem ch_wf {ts : List ByteArray} {ws : List Int} {team : ByteArray} {place top : Int} (h : topE ts ws top = 0) (h2 : hasS ts team = true) (h3 : outB place 1 ts.length = false) :
    WF ts.length ws (whoI ts team).toNat (place - 1).toNat top.toNat ∧ 0 ≤ whoI ts team ∧ 1 ≤ place ∧ 0 ≤ top := by
  have hw : weightsE ts ws = 0 := by
    refine Decidable.byContradiction fun h0 => h0 ?_
    unfold topE at h
    rwa [if_pos h0] at h
  have ht : topB ts.length top = false := by
    cases hb : topB ts.length top
    · rfl
    · unfold topE at h
      rw [if_neg (by simp [hw]), hb] at h
      cases h
  have g := w_good hw
  have hlt := whoI_lt ts team
  rw [whoI_has] at h2
  have h4 : 0 ≤ whoI ts team := by simpa using h2
  have h5 := out_no h3
  unfold topB at ht
  simp at ht
  have n1 := g.n1
  have n14 := g.n14
  exact ⟨⟨g.len, g.lo, n1, n14, by omega, by omega, by omega, by omega⟩, h4, h5.1, by omega⟩
/-- The block of the answer, with what lies in it. -/
structure RC (w0 w : World) (x y : Int) : Prop where
  c0 : w.cell? ⟨w0.heap.size, 0, none⟩ = some (.int .i64 x)
  c1 : w.cell? ⟨w0.heap.size, 1, none⟩ = some (.int .i64 y)
  bel : Below w0.heap.size w0 w
structure One (w0 w : World) : Prop where
  rc : RC w0 w 0 0
  f0 : w.frozen? ⟨w0.heap.size, 0, none⟩ = false
  f1 : w.frozen? ⟨w0.heap.size, 1, none⟩ = false
  lt : w0.heap.size < w.heap.size
theorem One.start (w0 : World) : One w0 (w0.alloc (.cells #[.int .i64 0, .int .i64 0] 37)) := by
  obtain ⟨k0, k1, kf, kf1, hlt, _⟩ := fresh2 w0 _ 37 (.int .i64 0) (.int .i64 0) (Below.refl _ _)
  exact ⟨⟨k0, k1, (Below.refl _ _).alloc (Nat.le_refl _) _⟩, kf, kf1, hlt⟩
theorem One.below {w0 w w' : World} (h : One w0 w) (b : Below w.heap.size w w') : One w0 w' :=
  ⟨⟨(b.cell (p := ⟨w0.heap.size, 0, none⟩) h.lt).trans h.rc.c0, (b.cell (p := ⟨w0.heap.size, 1, none⟩) h.lt).trans h.rc.c1, h.rc.bel.trans (b.mono h.rc.bel.size)⟩,
    (b.frozen (p := ⟨w0.heap.size, 0, none⟩) h.lt).trans h.f0, (b.frozen (p := ⟨w0.heap.size, 1, none⟩) h.lt).trans h.f1, Nat.lt_of_lt_of_le h.lt b.size⟩
theorem frozen_of_block {w w' : World} {g : Nat} (h : w'.heap[g]? = w.heap[g]?) (i : Nat) : w'.frozen? ⟨g, i, none⟩ = w.frozen? ⟨g, i, none⟩ := by
  unfold World.frozen?
  rw [h]
theorem One.grown {w0 w w' : World} {row : Option Nat} (h : One w0 w) (g : w.grownBy w' row) (hr : ∀ k, row = some k → w0.heap.size < k) : One w0 w' := by
  have hb := g.block w0.heap.size h.lt (fun e => Nat.lt_irrefl _ (hr _ e.symm))
  exact ⟨⟨(World.cell?_of_block (a := ⟨w0.heap.size, 0, none⟩) hb).trans h.rc.c0, (World.cell?_of_block (a := ⟨w0.heap.size, 1, none⟩) hb).trans h.rc.c1, h.rc.bel.grown g h.rc.bel.size (fun k e => Nat.le_of_lt (hr k e))⟩,
    (frozen_of_block hb 0).trans h.f0, (frozen_of_block hb 1).trans h.f1, Nat.lt_of_lt_of_le h.lt g.size⟩
theorem One.put {w0 w : World} (h : One w0 w) (x y : Int) : RC w0 ((w.setCell ⟨w0.heap.size, 0, none⟩ (.int .i64 x)).setCell ⟨w0.heap.size, 1, none⟩ (.int .i64 y)) x y := by
  refine ⟨?_, ?_, (h.rc.bel.setCell (by simp) _).setCell (by simp) _⟩
  · rw [World.cell?_setCell_other _ _ _ _ (by simp)]
    exact World.cell?_setCell_same' _ _ _ (by rw [h.rc.c0]; rfl)
  · exact World.cell?_setCell_same' _ _ _ (by rw [World.cell?_setCell_other _ _ _ _ (by simp), h.rc.c1]; rfl)
/-- The lottery is made. -/
structure LW (w0 : World) (gl bt : Nat) (vw vtk : Value) (n : Nat) (ws : List Int) (who place top : Nat) (w : World) : Prop where
  one : One w0 w
  wy : Wy w gl bt vw vtk n ws who place top [] w
  g0 : gl < w.heap.size
  b0 : w0.heap.size < bt
  wv : ∀ k, vw.ownBlock = some k → k < w.heap.size
  tv : ∀ k, vtk.ownBlock = some k → k < w.heap.size
theorem LW.start {w0 w : World} {vw : Value} {n : Nat} {ws : List Int} {who place top : Nat} (h : One w0 w) (hr : Row w 0 1 vw n (ws.map (.int .i64))) (hn : n ≤ 1000) (x : Int) (hx : x = (place : Int)) :
    LW w0 (w.heap.size + 1) w.heap.size vw (.slice (some ⟨w.heap.size, 0, none⟩) n n) n ws who place top ((w.alloc (.cells (madeCells #[.bool false] n) 4)).alloc (.cells #[vw, .int .i64 who, .int .i64 x, .int .i64 top, .slice (some ⟨w.heap.size, 0, none⟩) n n] 71)) := by
  subst hx
  have b1 := (Below.refl w.heap.size w).alloc (Nat.le_refl _) (.cells (madeCells #[.bool false] n) 4)
  have b2 := b1.alloc b1.size (.cells #[vw, .int .i64 who, .int .i64 place, .int .i64 top, .slice (some ⟨w.heap.size, 0, none⟩) n n] 71)
  have hs : (w.alloc (.cells (madeCells #[.bool false] n) 4)).heap.size = w.heap.size + 1 := by simp
  have c := fun i u h => cells_new (w.alloc (.cells (madeCells #[.bool false] n) 4)) #[vw, .int .i64 who, .int .i64 place, .int .i64 top, .slice (some ⟨w.heap.size, 0, none⟩) n n] 71 i u h
  rw [hs] at c
  have htk := owns_below (owns_made w w.heap.size 4 (.bool false) n hn (Nat.le_refl _)) ((Below.refl _ _).alloc (Nat.le_refl _) (.cells #[vw, .int .i64 who, .int .i64 place, .int .i64 top, .slice (some ⟨w.heap.size, 0, none⟩) n n] 71)) (Nat.le_refl _)
  rw [← takenC_nil] at htk
  refine ⟨h.below b2, ⟨c 0 _ rfl, c 1 _ rfl, c 2 _ rfl, c 3 _ rfl, c 4 _ rfl, hr.below b2, htk, grown_refl _ _, ?_, fun k hk => ?_, b2.size⟩, ?_, h.lt, fun k hk => ?_, fun k hk => ?_⟩
  · simp [Value.ownBlock]
  · have := row_lt hr k hk
    simp [Value.ownBlock]; omega
  · simp
  · exact Nat.lt_of_lt_of_le (row_lt hr k hk) b2.size
  · simp [Value.ownBlock] at hk; subst hk; simp; omega
noncomputable def ccP : Code := (Try.f12.body).getD .skip
set_option maxRecDepth 100000 in
theorem fr_ccP (f : Nat → Value) : frame 59 f = ⟨#[f 0, f 1, f 2, f 3, f 4, f 5, f 6, f 7, f 8, f 9, f 10, f 11, f 12, f 13, f 14, f 15, f 16, f 17, f 18, f 19, f 20, f 21, f 22, f 23, f 24, f 25, f 26, f 27, f 28, f 29, f 30, f 31, f 32, f 33, f 34, f 35, f 36, f 37, f 38, f 39, f 40, f 41, f 42, f 43, f 44, f 45, f 46, f 47, f 48, f 49, f 50, f 51, f 52, f 53, f 54, f 55, f 56, f 57, f 58], []⟩ := by rfl
set_option maxRecDepth 100000 in
set_option maxHeartbeats 1000000 in
theorem cc0 (w0 : World) (vt vw : Value) (ts : List ByteArray) (ws : List Int) (team : ByteArray) (place top : Int) (h : WH w0 vt vw ts ws) : T3 Try.prog (fun a w => (IsW w0 w) ∧ Fr 59 [(0, vt), (1, vw), (2, .string team), (3, .int .i64 place), (4, .int .i64 top)] a) (sel [0] ccP) (fun a w => (One w0 w) ∧ Fr 59 [(0, vt), (1, vw), (2, .string team), (3, .int .i64 place), (4, .int .i64 top), (10, .pointer (some ⟨w0.heap.size, 0, none⟩))] a) No 9 No := by
  refine T3.leaf ?_
  rintro Q JS JX JT K hS hK hX hE hT hR a w ⟨hW, ⟨fr, rfl, q0, q1, q2, q3, q4, _⟩⟩
  obtain rfl : w = w0 := hW
  obtain ⟨p1, c1, hv1⟩ := h.t.shape
  subst hv1
  obtain ⟨p2, c2, hv2⟩ := h.w.shape
  subst hv2
  rw [fr_ccP, show fr 0 = _ from q0, show fr 1 = _ from q1, show fr 2 = _ from q2, show fr 3 = _ from q3, show fr 4 = _ from q4]
  clear q0 q1 q2 q3 q4
  conv => arg 2; whnf
  go_wp2_with fail
  refine Met.intro (hS _ _ ?_)
  exact ⟨One.start _, Fr.of _ rfl ⟨rfl, rfl, rfl, rfl, rfl, rfl, trivial⟩⟩

set_option maxRecDepth 100000 in
set_option maxHeartbeats 1000000 in
theorem cc1 (w0 : World) (vt vw : Value) (ts : List ByteArray) (ws : List Int) (team : ByteArray) (place top : Int) (h : WH w0 vt vw ts ws) : T3 Try.prog (fun a w => (One w0 w) ∧ Fr 59 [(0, vt), (1, vw), (2, .string team), (3, .int .i64 place), (4, .int .i64 top), (10, .pointer (some ⟨w0.heap.size, 0, none⟩))] a) (sel [1, 0, 0] ccP) (fun a w => (One w0 w) ∧ Fr 59 [(0, vt), (1, vw), (2, .string team), (3, .int .i64 place), (4, .int .i64 top), (10, .pointer (some ⟨w0.heap.size, 0, none⟩)), (12, .int .i64 (topE ts ws top))] a) No 9 No := by
  refine T3.leaf ?_
  rintro Q JS JX JT K hS hK hX hE hT hR a w ⟨hW, ⟨fr, rfl, q0, q1, q2, q3, q4, q10, _⟩⟩
  have HP := Lib.hid (top_prog w vt vw ts ws top (h.below hW.rc.bel))
  have HW := Lib.hid hW
  clear hW
  generalize topE ts ws top = e0 at *
  obtain ⟨p1, c1, hv1⟩ := h.t.shape
  subst hv1
  obtain ⟨p2, c2, hv2⟩ := h.w.shape
  subst hv2
  rw [fr_ccP, show fr 0 = _ from q0, show fr 1 = _ from q1, show fr 2 = _ from q2, show fr 3 = _ from q3, show fr 4 = _ from q4, show fr 10 = _ from q10]
  clear q0 q1 q2 q3 q4 q10
  conv => arg 2; whnf
  go_wp2_with fail
  refine HP.out.mono ?_
  rintro e w1 ⟨rfl, rfl⟩
  go_wp2_with fail
  refine Met.intro (hS _ _ ?_)
  exact ⟨HW.out, Fr.of _ rfl ⟨rfl, rfl, rfl, rfl, rfl, rfl, rfl, trivial⟩⟩

set_option maxRecDepth 100000 in
set_option maxHeartbeats 1000000 in
theorem cc2 (w0 : World) (vt vw : Value) (ts : List ByteArray) (ws : List Int) (team : ByteArray) (place top : Int) (h : WH w0 vt vw ts ws) : T3 Try.prog (fun a w => (One w0 w) ∧ Fr 59 [(0, vt), (1, vw), (2, .string team), (3, .int .i64 place), (4, .int .i64 top), (10, .pointer (some ⟨w0.heap.size, 0, none⟩)), (12, .int .i64 (topE ts ws top))] a) (sel [1, 0, 1, 0] ccP) (fun a w => ∃ q, Fr 59 ((21, .bool q) :: [(0, vt), (1, vw), (2, .string team), (3, .int .i64 place), (4, .int .i64 top), (10, .pointer (some ⟨w0.heap.size, 0, none⟩)), (12, .int .i64 (topE ts ws top))]) a ∧ ((q = (topE ts ws top != 0)) ∧ One w0 w)) No 9 No := by
  refine T3.leaf ?_
  rintro Q JS JX JT K hS hK hX hE hT hR a w ⟨hW, ⟨fr, rfl, q0, q1, q2, q3, q4, q10, q12, _⟩⟩
  generalize topE ts ws top = e0 at *
  obtain ⟨p1, c1, hv1⟩ := h.t.shape
  subst hv1
  obtain ⟨p2, c2, hv2⟩ := h.w.shape
  subst hv2
  rw [fr_ccP, show fr 0 = _ from q0, show fr 1 = _ from q1, show fr 2 = _ from q2, show fr 3 = _ from q3, show fr 4 = _ from q4, show fr 10 = _ from q10, show fr 12 = _ from q12]
  clear q0 q1 q2 q3 q4 q10 q12
  conv => arg 2; whnf
  go_wp2_with fail
  refine Met.intro (hS _ _ ?_)
  exact ⟨_, Fr.of _ rfl ⟨rfl, rfl, rfl, rfl, rfl, rfl, rfl, rfl, trivial⟩, rfl, hW⟩

set_option maxRecDepth 100000 in
set_option maxHeartbeats 1000000 in
theorem cc3 (w0 : World) (vt vw : Value) (ts : List ByteArray) (ws : List Int) (team : ByteArray) (place top : Int) (h : WH w0 vt vw ts ws) : T3 Try.prog (fun a w => (One w0 w) ∧ Fr 59 [(0, vt), (1, vw), (2, .string team), (3, .int .i64 place), (4, .int .i64 top), (10, .pointer (some ⟨w0.heap.size, 0, none⟩)), (12, .int .i64 (topE ts ws top))] a) (sel [1, 0, 1, 1, 2, 0] ccP) (fun a w => (RC w0 w 0 0) ∧ Fr 59 [(10, .pointer (some ⟨w0.heap.size, 0, none⟩)), (11, .int .i64 (topE ts ws top))] a) No 9 No := by
  refine T3.leaf ?_
  rintro Q JS JX JT K hS hK hX hE hT hR a w ⟨hW, ⟨fr, rfl, q0, q1, q2, q3, q4, q10, q12, _⟩⟩
  generalize topE ts ws top = e0 at *
  have HR := Lib.hid (hW.put 0 0)
  have c0 := hW.rc.c0
  have c1 := hW.rc.c1
  have f0 := hW.f0
  have f1 := hW.f1
  clear hW
  obtain ⟨p1, cc1, hv1⟩ := h.t.shape
  subst hv1
  obtain ⟨p2, cc2, hv2⟩ := h.w.shape
  subst hv2
  rw [fr_ccP, show fr 0 = _ from q0, show fr 1 = _ from q1, show fr 2 = _ from q2, show fr 3 = _ from q3, show fr 4 = _ from q4, show fr 10 = _ from q10, show fr 12 = _ from q12]
  clear q0 q1 q2 q3 q4 q10 q12
  conv => arg 2; whnf
  go_wp2_with fail
  refine Met.intro (hS _ _ ?_)
  exact ⟨HR.out, Fr.of _ rfl ⟨rfl, rfl, trivial⟩⟩

set_option maxRecDepth 100000 in
set_option maxHeartbeats 1000000 in
theorem cc4 (w0 : World) (vt vw : Value) (ts : List ByteArray) (ws : List Int) (team : ByteArray) (place top : Int) (h : WH w0 vt vw ts ws) : T3 Try.prog (fun a w => (One w0 w) ∧ Fr 59 [(0, vt), (1, vw), (2, .string team), (3, .int .i64 place), (4, .int .i64 top), (10, .pointer (some ⟨w0.heap.size, 0, none⟩))] a) (sel [1, 1, 0] ccP) (fun a w => (One w0 w) ∧ Fr 59 [(0, vt), (1, vw), (2, .string team), (3, .int .i64 place), (4, .int .i64 top), (10, .pointer (some ⟨w0.heap.size, 0, none⟩)), (13, .int .i64 (whoI ts team))] a) No 9 No := by
  refine T3.leaf ?_
  rintro Q JS JX JT K hS hK hX hE hT hR a w ⟨hW, ⟨fr, rfl, q0, q1, q2, q3, q4, q10, _⟩⟩
  have HP := Lib.hid (index_str vt ts.length ts team 0 w (h.t.below hW.rc.bel))
  have HW := Lib.hid hW
  clear hW
  generalize whoI ts team = k at *
  obtain ⟨p1, c1, hv1⟩ := h.t.shape
  subst hv1
  obtain ⟨p2, c2, hv2⟩ := h.w.shape
  subst hv2
  rw [fr_ccP, show fr 0 = _ from q0, show fr 1 = _ from q1, show fr 2 = _ from q2, show fr 3 = _ from q3, show fr 4 = _ from q4, show fr 10 = _ from q10]
  clear q0 q1 q2 q3 q4 q10
  conv => arg 2; whnf
  go_wp2_with fail
  refine HP.out.mono ?_
  rintro e w1 ⟨rfl, rfl⟩
  go_wp2_with fail
  refine Met.intro (hS _ _ ?_)
  exact ⟨HW.out, Fr.of _ rfl ⟨rfl, rfl, rfl, rfl, rfl, rfl, rfl, trivial⟩⟩

set_option maxRecDepth 100000 in
set_option maxHeartbeats 1000000 in
theorem cc5 (w0 : World) (vt vw : Value) (ts : List ByteArray) (ws : List Int) (team : ByteArray) (place top : Int) (h : WH w0 vt vw ts ws) : T3 Try.prog (fun a w => (One w0 w) ∧ Fr 59 [(0, vt), (1, vw), (2, .string team), (3, .int .i64 place), (4, .int .i64 top), (10, .pointer (some ⟨w0.heap.size, 0, none⟩)), (13, .int .i64 (whoI ts team))] a) (sel [1, 1, 1, 0, 4, 0] ccP) (fun a w => ∃ q, Fr 59 ((27, .bool q) :: [(0, vt), (1, vw), (2, .string team), (3, .int .i64 place), (4, .int .i64 top), (10, .pointer (some ⟨w0.heap.size, 0, none⟩)), (13, .int .i64 (whoI ts team))]) a ∧ ((q = decide (whoI ts team < 0)) ∧ One w0 w)) No 9 No := by
  refine T3.leaf ?_
  rintro Q JS JX JT K hS hK hX hE hT hR a w ⟨hW, ⟨fr, rfl, q0, q1, q2, q3, q4, q10, q13, _⟩⟩
  generalize whoI ts team = k at *
  obtain ⟨p1, c1, hv1⟩ := h.t.shape
  subst hv1
  obtain ⟨p2, c2, hv2⟩ := h.w.shape
  subst hv2
  generalize hq : decide (k < 0) = q at *
  rw [fr_ccP, show fr 0 = _ from q0, show fr 1 = _ from q1, show fr 2 = _ from q2, show fr 3 = _ from q3, show fr 4 = _ from q4, show fr 10 = _ from q10, show fr 13 = _ from q13]
  clear q0 q1 q2 q3 q4 q10 q13
  conv => arg 2; whnf
  go_wp2_with fail
  refine Met.intro (hS _ _ ?_)
  exact ⟨_, Fr.of _ rfl ⟨rfl, rfl, rfl, rfl, rfl, rfl, rfl, rfl, trivial⟩, rfl, hW⟩

set_option maxRecDepth 100000 in
set_option maxHeartbeats 1000000 in
theorem cc6 (w0 : World) (vt vw : Value) (ts : List ByteArray) (ws : List Int) (team : ByteArray) (place top : Int) (h : WH w0 vt vw ts ws) : T3 Try.prog (fun a w => (One w0 w) ∧ Fr 59 [(0, vt), (1, vw), (2, .string team), (3, .int .i64 place), (4, .int .i64 top), (10, .pointer (some ⟨w0.heap.size, 0, none⟩)), (13, .int .i64 (whoI ts team))] a) (sel [1, 1, 1, 0, 4, 1, 2, 0] ccP) (fun a w => (RC w0 w 0 0) ∧ Fr 59 [(10, .pointer (some ⟨w0.heap.size, 0, none⟩)), (11, .int .i64 8)] a) No 9 No := by
  refine T3.leaf ?_
  rintro Q JS JX JT K hS hK hX hE hT hR a w ⟨hW, ⟨fr, rfl, q0, q1, q2, q3, q4, q10, q13, _⟩⟩
  generalize topE ts ws top = e0 at *
  have HR := Lib.hid (hW.put 0 0)
  have c0 := hW.rc.c0
  have c1 := hW.rc.c1
  have f0 := hW.f0
  have f1 := hW.f1
  clear hW
  obtain ⟨p1, cc1, hv1⟩ := h.t.shape
  subst hv1
  obtain ⟨p2, cc2, hv2⟩ := h.w.shape
  subst hv2
  rw [fr_ccP, show fr 0 = _ from q0, show fr 1 = _ from q1, show fr 2 = _ from q2, show fr 3 = _ from q3, show fr 4 = _ from q4, show fr 10 = _ from q10, show fr 13 = _ from q13]
  clear q0 q1 q2 q3 q4 q10 q13
  conv => arg 2; whnf
  go_wp2_with fail
  refine Met.intro (hS _ _ ?_)
  exact ⟨HR.out, Fr.of _ rfl ⟨rfl, rfl, trivial⟩⟩

set_option maxRecDepth 100000 in
set_option maxHeartbeats 1000000 in
theorem cc7 (w0 : World) (vt vw : Value) (ts : List ByteArray) (ws : List Int) (team : ByteArray) (place top : Int) (h : WH w0 vt vw ts ws) : T3 Try.prog (fun a w => (One w0 w) ∧ Fr 59 [(0, vt), (1, vw), (2, .string team), (3, .int .i64 place), (4, .int .i64 top), (10, .pointer (some ⟨w0.heap.size, 0, none⟩)), (13, .int .i64 (whoI ts team))] a) (sel [1, 1, 1, 0, 4, 1, 3, 0] ccP) (fun a w => ∃ q, Fr 59 ((31, .bool q) :: [(0, vt), (1, vw), (2, .string team), (3, .int .i64 place), (4, .int .i64 top), (10, .pointer (some ⟨w0.heap.size, 0, none⟩)), (13, .int .i64 (whoI ts team))]) a ∧ ((q = outB place 1 ts.length) ∧ One w0 w)) No 9 No := by
  refine T3.leaf ?_
  rintro Q JS JX JT K hS hK hX hE hT hR a w ⟨hW, ⟨fr, rfl, q0, q1, q2, q3, q4, q10, q13, _⟩⟩
  generalize whoI ts team = k at *
  have HP := Lib.hid (fun w => out_any place 1 ts.length w)
  have HW := Lib.hid hW
  clear hW
  obtain ⟨p1, c1, hv1⟩ := h.t.shape
  subst hv1
  obtain ⟨p2, c2, hv2⟩ := h.w.shape
  subst hv2
  generalize outB place 1 ts.length = q at *
  rw [fr_ccP, show fr 0 = _ from q0, show fr 1 = _ from q1, show fr 2 = _ from q2, show fr 3 = _ from q3, show fr 4 = _ from q4, show fr 10 = _ from q10, show fr 13 = _ from q13]
  clear q0 q1 q2 q3 q4 q10 q13
  conv => arg 2; whnf
  go_wp2_with fail
  refine (HP.out _).mono ?_
  rintro e w1 ⟨rfl, rfl⟩
  go_wp2_with fail
  refine Met.intro (hS _ _ ?_)
  exact ⟨_, Fr.of _ rfl ⟨rfl, rfl, rfl, rfl, rfl, rfl, rfl, rfl, trivial⟩, rfl, HW.out⟩

set_option maxRecDepth 100000 in
set_option maxHeartbeats 1000000 in
theorem cc8 (w0 : World) (vt vw : Value) (ts : List ByteArray) (ws : List Int) (team : ByteArray) (place top : Int) (h : WH w0 vt vw ts ws) : T3 Try.prog (fun a w => (One w0 w) ∧ Fr 59 [(0, vt), (1, vw), (2, .string team), (3, .int .i64 place), (4, .int .i64 top), (10, .pointer (some ⟨w0.heap.size, 0, none⟩)), (13, .int .i64 (whoI ts team))] a) (sel [1, 1, 1, 0, 4, 1, 3, 1, 2, 0] ccP) (fun a w => (RC w0 w 0 0) ∧ Fr 59 [(10, .pointer (some ⟨w0.heap.size, 0, none⟩)), (11, .int .i64 1)] a) No 9 No := by
  refine T3.leaf ?_
  rintro Q JS JX JT K hS hK hX hE hT hR a w ⟨hW, ⟨fr, rfl, q0, q1, q2, q3, q4, q10, q13, _⟩⟩
  generalize topE ts ws top = e0 at *
  have HR := Lib.hid (hW.put 0 0)
  have c0 := hW.rc.c0
  have c1 := hW.rc.c1
  have f0 := hW.f0
  have f1 := hW.f1
  clear hW
  obtain ⟨p1, cc1, hv1⟩ := h.t.shape
  subst hv1
  obtain ⟨p2, cc2, hv2⟩ := h.w.shape
  subst hv2
  rw [fr_ccP, show fr 0 = _ from q0, show fr 1 = _ from q1, show fr 2 = _ from q2, show fr 3 = _ from q3, show fr 4 = _ from q4, show fr 10 = _ from q10, show fr 13 = _ from q13]
  clear q0 q1 q2 q3 q4 q10 q13
  conv => arg 2; whnf
  go_wp2_with fail
  refine Met.intro (hS _ _ ?_)
  exact ⟨HR.out, Fr.of _ rfl ⟨rfl, rfl, trivial⟩⟩

set_option maxRecDepth 100000 in
set_option maxHeartbeats 1000000 in
theorem cc9 (w0 : World) (vt vw : Value) (ts : List ByteArray) (ws : List Int) (place : Int) (who pn tn : Nat) (hp : place - 1 = (pn : Int)) (f : WF ts.length ws who pn tn) (h : WH w0 vt vw ts ws) : T3 Try.prog (fun a w => (One w0 w) ∧ Fr 59 [(0, vt), (1, vw), (3, .int .i64 place), (4, .int .i64 (tn : Nat)), (10, .pointer (some ⟨w0.heap.size, 0, none⟩)), (13, .int .i64 (who : Nat))] a) (sel [1, 1, 1, 1, 0] ccP) (fun a w => ∃ (gl bt : Nat) (vtk : Value), (LW w0 gl bt vw vtk ts.length ws who pn tn w) ∧ Fr 59 [(1, vw), (4, .int .i64 (tn : Nat)), (10, .pointer (some ⟨w0.heap.size, 0, none⟩)), (14, .pointer (some ⟨gl, 0, none⟩))] a) No 9 No := by
  refine T3.leaf ?_
  rintro Q JS JX JT K hS hK hX hE hT hR a w ⟨hW, ⟨fr, rfl, q0, q1, q3, q4, q10, q13, _⟩⟩
  have hmk := mk_bools ts.length h.tn
  have HR := Lib.hid (LW.start (who := who) (top := tn) hW ((f.len ▸ h.w).below hW.rc.bel) h.tn (pn : Int) rfl)
  have f14 := f.n14
  have fp := f.hp
  have Hp := Lib.hid hp
  clear hW
  obtain ⟨p1, c1, hv1⟩ := h.t.shape
  subst hv1
  obtain ⟨p2, c2, hv2⟩ := h.w.shape
  subst hv2
  rw [fr_ccP, show fr 0 = _ from q0, show fr 1 = _ from q1, show fr 3 = _ from q3, show fr 4 = _ from q4, show fr 10 = _ from q10, show fr 13 = _ from q13]
  clear q0 q1 q3 q4 q10 q13
  conv => arg 2; whnf
  go_wp2_with fail
  refine Met.intro (hS _ _ ?_)
  exact ⟨_, _, _, HR.out, Fr.of _ rfl ⟨rfl, rfl, rfl, rfl, trivial⟩⟩

set_option maxRecDepth 100000 in
set_option maxHeartbeats 1000000 in
theorem cc10 (w0 : World) (vt vw : Value) (ts : List ByteArray) (ws : List Int) (place : Int) (who pn tn : Nat) (hp : place - 1 = (pn : Int)) (f : WF ts.length ws who pn tn) (h : WH w0 vt vw ts ws) (gl bt : Nat) (vtk : Value) : T3 Try.prog (fun a w => (LW w0 gl bt vw vtk ts.length ws who pn tn w) ∧ Fr 59 [(1, vw), (4, .int .i64 (tn : Nat)), (10, .pointer (some ⟨w0.heap.size, 0, none⟩)), (14, .pointer (some ⟨gl, 0, none⟩))] a) (sel [1, 1, 1, 1, 1, 0] ccP) (fun a w => (LW w0 gl bt vw vtk ts.length ws who pn tn w) ∧ Fr 59 [(1, vw), (4, .int .i64 (tn : Nat)), (10, .pointer (some ⟨w0.heap.size, 0, none⟩)), (14, .pointer (some ⟨gl, 0, none⟩)), (15, .int .i64 1)] a) No 9 No := by
  refine T3.leaf ?_
  rintro Q JS JX JT K hS hK hX hE hT hR a w ⟨hW, ⟨fr, rfl, q1, q4, q10, q14, _⟩⟩
  rw [fr_ccP, show fr 1 = _ from q1, show fr 4 = _ from q4, show fr 10 = _ from q10, show fr 14 = _ from q14]
  clear q1 q4 q10 q14
  conv => arg 2; whnf
  go_wp2_with fail
  refine Met.intro (hS _ _ ?_)
  exact ⟨hW, Fr.of _ rfl ⟨rfl, rfl, rfl, rfl, rfl, trivial⟩⟩

set_option maxRecDepth 100000 in
set_option maxHeartbeats 1000000 in
theorem cc11 (w0 : World) (vt vw : Value) (ts : List ByteArray) (ws : List Int) (place : Int) (who pn tn : Nat) (hp : place - 1 = (pn : Int)) (f : WF ts.length ws who pn tn) (h : WH w0 vt vw ts ws) (gl bt : Nat) (vtk : Value) : T3 Try.prog (fun a w => (LW w0 gl bt vw vtk ts.length ws who pn tn w) ∧ Fr 59 [(1, vw), (4, .int .i64 (tn : Nat)), (10, .pointer (some ⟨w0.heap.size, 0, none⟩)), (14, .pointer (some ⟨gl, 0, none⟩)), (15, .int .i64 1)] a) (sel [1, 1, 1, 1, 1, 1, 0, 0] ccP) (fun a w => (0 ≤ (0 : Int) ∧ (0 : Int) ≤ tn) ∧ (LW w0 gl bt vw vtk ts.length ws who pn tn w) ∧ Fr 59 [(1, vw), (4, .int .i64 (tn : Nat)), (10, .pointer (some ⟨w0.heap.size, 0, none⟩)), (14, .pointer (some ⟨gl, 0, none⟩)), (15, .int .i64 (ws.sum ^ (0 : Int).toNat)), (47, .int .i64 (tn : Nat)), (48, .int .i64 0)] a) No 9 No := by
  refine T3.leaf ?_
  rintro Q JS JX JT K hS hK hX hE hT hR a w ⟨hW, ⟨fr, rfl, q1, q4, q10, q14, q15, _⟩⟩
  have hz := Lib.hid (show ws.sum ^ (0 : Int).toNat = 1 by simp)
  rw [fr_ccP, show fr 1 = _ from q1, show fr 4 = _ from q4, show fr 10 = _ from q10, show fr 14 = _ from q14, show fr 15 = _ from q15]
  clear q1 q4 q10 q14 q15
  conv => arg 2; whnf
  go_wp2_with fail
  refine Met.intro (hS _ _ ?_)
  rw [hz.out]
  exact ⟨⟨by omega, by omega⟩, hW, Fr.of _ rfl ⟨rfl, rfl, rfl, rfl, rfl, rfl, rfl, trivial⟩⟩

theorem pow_b {s : Int} (h0 : 1 ≤ s) (h1 : s ≤ 14000) : ∀ (m : Nat), m ≤ 4 → 1 ≤ s ^ m ∧ s ^ m ≤ 38416000000000000 := by
  have key : ∀ m : Nat, 1 ≤ s ^ m ∧ s ^ m ≤ 14000 ^ m := by
    intro m
    induction m with
    | zero => simp
    | succ m ih =>
      rw [Int.pow_succ, Int.pow_succ]
      have hP : 1 ≤ (14000 : Int) ^ m := by omega
      refine ⟨?_, ?_⟩
      · have := Int.mul_le_mul_of_nonneg_left h0 (show 0 ≤ s ^ m by omega)
        omega
      · exact Int.le_trans (Int.mul_le_mul_of_nonneg_right ih.2 (by omega)) (Int.mul_le_mul_of_nonneg_left h1 (by omega))
  intro m hm
  have := key m
  have := pow_small hm
  omega
theorem sum_b {nt who pn tn : Nat} {ws : List Int} (f : WF nt ws who pn tn) : 1 ≤ ws.sum ∧ ws.sum ≤ 14000 := by
  have h1 := sum_ge ws f.lo
  have h2 := f.len
  have h3 := f.n1
  have h4 := f.n14
  omega
set_option maxRecDepth 100000 in
set_option maxHeartbeats 1000000 in
theorem cc13 (w0 : World) (vt vw : Value) (ts : List ByteArray) (ws : List Int) (place : Int) (who pn tn : Nat) (hp : place - 1 = (pn : Int)) (f : WF ts.length ws who pn tn) (h : WH w0 vt vw ts ws) (gl bt : Nat) (vtk : Value) (k : Int) : T3 Try.prog (fun a w => (0 ≤ k ∧ k < tn) ∧ (LW w0 gl bt vw vtk ts.length ws who pn tn w) ∧ Fr 59 [(1, vw), (4, .int .i64 (tn : Nat)), (10, .pointer (some ⟨w0.heap.size, 0, none⟩)), (14, .pointer (some ⟨gl, 0, none⟩)), (15, .int .i64 (ws.sum ^ (k : Int).toNat)), (47, .int .i64 (tn : Nat)), (48, .int .i64 k)] a) (sel [1, 1, 1, 1, 1, 1, 0, 1, 4, 4, 1, 1, 0, 4] ccP) (fun a w => (0 ≤ k ∧ k < tn) ∧ (LW w0 gl bt vw vtk ts.length ws who pn tn w) ∧ Fr 59 [(1, vw), (4, .int .i64 (tn : Nat)), (10, .pointer (some ⟨w0.heap.size, 0, none⟩)), (14, .pointer (some ⟨gl, 0, none⟩)), (15, .int .i64 (ws.sum ^ ((k + 1) : Int).toNat)), (47, .int .i64 (tn : Nat)), (48, .int .i64 k)] a) No 9 No := by
  refine T3.leaf ?_
  rintro Q JS JX JT K hS hK hX hE hT hR a w ⟨hpre, hW, ⟨fr, rfl, q1, q4, q10, q14, q15, q47, q48, _⟩⟩
  have hpp := Lib.hid hpre
  obtain ⟨hk0, hk1⟩ := hpre
  have HW := Lib.hid hW
  have hsb := sum_b f
  have ht4 := f.ht
  have HP := Lib.hid (sum_prog vw ws.length ws 0 w (h.w.below hW.one.rc.bel) f.lo (by have := f.len; have := f.n14; omega))
  have hb1 := pow_b hsb.1 hsb.2 k.toNat (by omega)
  have hb2 := pow_b hsb.1 hsb.2 (k.toNat + 1) (by omega)
  rw [Int.pow_succ] at hb2
  have HS := Lib.hid (show ws.sum ^ (k + 1).toNat = ws.sum ^ k.toNat * ws.sum by rw [show (k + 1).toNat = k.toNat + 1 by omega, Int.pow_succ])
  clear hW
  obtain ⟨p1, c1, hv1⟩ := h.t.shape
  subst hv1
  obtain ⟨p2, c2, hv2⟩ := h.w.shape
  subst hv2
  generalize ws.sum ^ k.toNat = pk at *
  generalize ws.sum ^ (k + 1).toNat = pk1 at *
  generalize ws.sum = sm at *
  rw [fr_ccP, show fr 1 = _ from q1, show fr 4 = _ from q4, show fr 10 = _ from q10, show fr 14 = _ from q14, show fr 15 = _ from q15, show fr 47 = _ from q47, show fr 48 = _ from q48]
  clear q1 q4 q10 q14 q15 q47 q48
  conv => arg 2; whnf
  go_wp2_with fail
  refine HP.out.mono ?_
  rintro e w1 ⟨rfl, rfl⟩
  go_wp2_with fail
  refine Met.intro (hS _ _ ?_)
  rw [HS.out]
  exact ⟨hpp.out, HW.out, Fr.of _ rfl ⟨rfl, rfl, rfl, rfl, rfl, rfl, rfl, trivial⟩⟩

set_option maxRecDepth 100000 in
set_option maxHeartbeats 1000000 in
theorem cc13b (w0 : World) (vt vw : Value) (ts : List ByteArray) (ws : List Int) (place : Int) (who pn tn : Nat) (hp : place - 1 = (pn : Int)) (f : WF ts.length ws who pn tn) (h : WH w0 vt vw ts ws) (gl bt : Nat) (vtk : Value) (k : Int) : T3 Try.prog (fun a w => (0 ≤ k ∧ k < tn) ∧ (LW w0 gl bt vw vtk ts.length ws who pn tn w) ∧ Fr 59 [(1, vw), (4, .int .i64 (tn : Nat)), (10, .pointer (some ⟨w0.heap.size, 0, none⟩)), (14, .pointer (some ⟨gl, 0, none⟩)), (15, .int .i64 (ws.sum ^ (k : Int).toNat)), (47, .int .i64 (tn : Nat)), (48, .int .i64 k)] a) (sel [1, 1, 1, 1, 1, 1, 0, 1, 4, 4, 1, 1, 0] ccP) (fun a w => (0 ≤ k ∧ k < tn) ∧ (LW w0 gl bt vw vtk ts.length ws who pn tn w) ∧ Fr 59 [(1, vw), (4, .int .i64 (tn : Nat)), (10, .pointer (some ⟨w0.heap.size, 0, none⟩)), (14, .pointer (some ⟨gl, 0, none⟩)), (15, .int .i64 (ws.sum ^ ((k + 1) : Int).toNat)), (47, .int .i64 (tn : Nat)), (48, .int .i64 k)] a) No 9 No := T3.block (id' := 2) (c := (sel [1, 1, 1, 1, 1, 1, 0, 1, 4, 4, 1, 1, 0, 4] ccP)) (by decide) (cc13 w0 vt vw ts ws place who pn tn hp f h gl bt vtk k)

def ccaI (w0 : World) (vt vw : Value) (ts : List ByteArray) (ws : List Int) (place : Int) (who pn tn : Nat) (hp : place - 1 = (pn : Int)) (f : WF ts.length ws who pn tn) (h : WH w0 vt vw ts ws) (gl bt : Nat) (vtk : Value) (k : Int) (a : Act) (w : World) : Prop := (0 ≤ k ∧ k ≤ tn) ∧ (LW w0 gl bt vw vtk ts.length ws who pn tn w) ∧ Fr 59 [(1, vw), (4, .int .i64 (tn : Nat)), (10, .pointer (some ⟨w0.heap.size, 0, none⟩)), (14, .pointer (some ⟨gl, 0, none⟩)), (15, .int .i64 (ws.sum ^ (k : Int).toNat)), (47, .int .i64 (tn : Nat)), (48, .int .i64 k)] a
set_option maxRecDepth 100000 in
set_option maxHeartbeats 1000000 in
theorem ccat (w0 : World) (vt vw : Value) (ts : List ByteArray) (ws : List Int) (place : Int) (who pn tn : Nat) (hp : place - 1 = (pn : Int)) (f : WF ts.length ws who pn tn) (h : WH w0 vt vw ts ws) (gl bt : Nat) (vtk : Value) (k : Int) : T3 Try.prog (fun a w => ccaI w0 vt vw ts ws place who pn tn hp f h gl bt vtk k a w) (sel [1, 1, 1, 1, 1, 1, 0, 1, 4, 4, 0] ccP) (fun a w => ∃ q, Fr 59 ((49, .bool q) :: [(48, .int .i64 k)]) a ∧ ((q = true ↔ k < tn) ∧ ccaI w0 vt vw ts ws place who pn tn hp f h gl bt vtk k a w)) No 9 No := by
  refine T3.leaf ?_
  rintro Q JS JX JT K hS hK hX hE hT hR a w ⟨hk, hW, ⟨fr, rfl, q1, q4, q10, q14, q15, q47, q48, _⟩⟩
  have ht4 := f.ht
  rw [fr_ccP, show fr 1 = _ from q1, show fr 4 = _ from q4, show fr 10 = _ from q10, show fr 14 = _ from q14, show fr 15 = _ from q15, show fr 47 = _ from q47, show fr 48 = _ from q48]
  clear q1 q4 q10 q14 q15 q47 q48
  conv => arg 2; whnf
  by_cases hlt : k < tn
  · go_wp2_with fail
    refine Met.intro (hS _ _ ?_)
    exact ⟨true, Fr.of _ rfl ⟨rfl, rfl, trivial⟩, ⟨fun _ => hlt, fun _ => rfl⟩, hk, hW, Fr.of _ rfl ⟨rfl, rfl, rfl, rfl, rfl, rfl, rfl, trivial⟩⟩
  · have hpb : decide (k < (tn)) = false := by simp; omega
    go_wp2_with fail
    refine Met.intro (hS _ _ ?_)
    exact ⟨false, Fr.of _ rfl ⟨rfl, rfl, trivial⟩, ⟨(fun h => by cases h), fun h => absurd h (by omega)⟩, hk, hW, Fr.of _ rfl ⟨rfl, rfl, rfl, rfl, rfl, rfl, rfl, trivial⟩⟩

set_option maxRecDepth 100000 in
set_option maxHeartbeats 1000000 in
theorem ccan (w0 : World) (vt vw : Value) (ts : List ByteArray) (ws : List Int) (place : Int) (who pn tn : Nat) (hp : place - 1 = (pn : Int)) (f : WF ts.length ws who pn tn) (h : WH w0 vt vw ts ws) (gl bt : Nat) (vtk : Value) (k : Int) : T3 Try.prog (fun a w => (0 ≤ k ∧ k < tn) ∧ (LW w0 gl bt vw vtk ts.length ws who pn tn w) ∧ Fr 59 [(1, vw), (4, .int .i64 (tn : Nat)), (10, .pointer (some ⟨w0.heap.size, 0, none⟩)), (14, .pointer (some ⟨gl, 0, none⟩)), (15, .int .i64 (ws.sum ^ ((k + 1) : Int).toNat)), (47, .int .i64 (tn : Nat)), (48, .int .i64 k)] a) (sel [1, 1, 1, 1, 1, 1, 0, 1, 4, 4, 1, 1, 1] ccP) (fun a w => ccaI w0 vt vw ts ws place who pn tn hp f h gl bt vtk (k + 1) a w) No 9 No := by
  refine T3.leaf ?_
  rintro Q JS JX JT K hS hK hX hE hT hR a w ⟨hk, hW, ⟨fr, rfl, q1, q4, q10, q14, q15, q47, q48, _⟩⟩
  obtain ⟨hk0, hk1⟩ := hk
  have ht4 := f.ht
  rw [fr_ccP, show fr 1 = _ from q1, show fr 4 = _ from q4, show fr 10 = _ from q10, show fr 14 = _ from q14, show fr 15 = _ from q15, show fr 47 = _ from q47, show fr 48 = _ from q48]
  clear q1 q4 q10 q14 q15 q47 q48
  conv => arg 2; whnf
  go_wp2_with fail
  refine Met.intro (hS _ _ ?_)
  exact ⟨⟨by omega, by omega⟩, hW, Fr.of _ rfl ⟨rfl, rfl, rfl, rfl, rfl, rfl, rfl, trivial⟩⟩

set_option maxRecDepth 100000 in
set_option maxHeartbeats 1000000 in
theorem ccaloop (w0 : World) (vt vw : Value) (ts : List ByteArray) (ws : List Int) (place : Int) (who pn tn : Nat) (hp : place - 1 = (pn : Int)) (f : WF ts.length ws who pn tn) (h : WH w0 vt vw ts ws) (gl bt : Nat) (vtk : Value) : T3 Try.prog (fun a w => ccaI w0 vt vw ts ws place who pn tn hp f h gl bt vtk 0 a w) (sel [1, 1, 1, 1, 1, 1, 0, 1] ccP) (fun a w => (LW w0 gl bt vw vtk ts.length ws who pn tn w) ∧ Fr 59 [(10, .pointer (some ⟨w0.heap.size, 0, none⟩)), (14, .pointer (some ⟨gl, 0, none⟩)), (15, .int .i64 (ws.sum ^ tn))] a) No 9 No := by
  refine T3.loop (c := (sel [1, 1, 1, 1, 1, 1, 0, 1, 4, 4] ccP)) (fun ng_ a w => ∃ k : Int, (ng_ : Int) = tn - k ∧ ccaI w0 vt vw ts ws place who pn tn hp f h gl bt vtk k a w) (fun a w h => ⟨(tn : Int).toNat, 0, by have := h.1.2; omega, h⟩) (fun ng_ => T3.ex fun k => T3.pure fun hng_ => ?_)
  refine T3.seq (s := (sel [1, 1, 1, 1, 1, 1, 0, 1, 4, 4, 0] ccP)) (c := (sel [1, 1, 1, 1, 1, 1, 0, 1, 4, 4, 1] ccP)) ((ccat w0 vt vw ts ws place who pn tn hp f h gl bt vtk k).noX) ?_
  refine T3.seq (s := (sel [1, 1, 1, 1, 1, 1, 0, 1, 4, 4, 1, 0] ccP)) (c := (sel [1, 1, 1, 1, 1, 1, 0, 1, 4, 4, 1, 1] ccP)) (S := fun a w => (0 ≤ k ∧ k < tn) ∧ (LW w0 gl bt vw vtk ts.length ws who pn tn w) ∧ Fr 59 [(1, vw), (4, .int .i64 (tn : Nat)), (10, .pointer (some ⟨w0.heap.size, 0, none⟩)), (14, .pointer (some ⟨gl, 0, none⟩)), (15, .int .i64 (ws.sum ^ (k : Int).toNat)), (47, .int .i64 (tn : Nat)), (48, .int .i64 k)] a) ?_ (T3.seq (s := (sel [1, 1, 1, 1, 1, 1, 0, 1, 4, 4, 1, 1, 0] ccP)) (c := (sel [1, 1, 1, 1, 1, 1, 0, 1, 4, 4, 1, 1, 1] ccP)) (S := fun a w => (0 ≤ k ∧ k < tn) ∧ (LW w0 gl bt vw vtk ts.length ws who pn tn w) ∧ Fr 59 [(1, vw), (4, .int .i64 (tn : Nat)), (10, .pointer (some ⟨w0.heap.size, 0, none⟩)), (14, .pointer (some ⟨gl, 0, none⟩)), (15, .int .i64 (ws.sum ^ ((k + 1) : Int).toNat)), (47, .int .i64 (tn : Nat)), (48, .int .i64 k)] a) (T3.noX (cc13b w0 vt vw ts ws place who pn tn hp f h gl bt vtk k)) ?_)
  · refine T3.cond (o := .tmp 49) (x := .skip) (y := .exit 1) (fun a w => k < tn ∧ ccaI w0 vt vw ts ws place who pn tn hp f h gl bt vtk k a w) (fun a w => ¬ k < tn ∧ ccaI w0 vt vw ts ws place who pn tn hp f h gl bt vtk k a w) ?_ (T3.skip ?_) (T3.exit ?_)
    · rintro a w ⟨q, hF, hq, hI⟩
      have he := hF.eval 49 (by decide) (v := .bool q) (by simp)
      cases q
      · exact .inr ⟨he, (fun h => by have := hq.2 h; cases this), hI⟩
      · exact .inl ⟨he, hq.1 rfl, hI⟩
    · rintro a w ⟨hlt, hk, hI⟩
      exact ⟨⟨hk.1, hlt⟩, hI⟩
    · rintro a w ⟨hlt, hk, hI⟩
      obtain rfl : k = tn := by omega
      obtain ⟨hW, hF⟩ := hI
      rw [show ((tn : Nat) : Int).toNat = tn by omega] at hF
      exact ⟨hW, hF.sub (by simp)⟩
  · intro a w hx
    have hk := hx.1
    exact (((ccan w0 vt vw ts ws place who pn tn hp f h gl bt vtk k).noX).post (fun a w q => ⟨ng_ - 1, by omega, k + 1, by omega, q⟩)) a w hx
set_option maxRecDepth 100000 in
set_option maxHeartbeats 1000000 in
theorem cc15 (w0 : World) (vt vw : Value) (ts : List ByteArray) (ws : List Int) (place : Int) (who pn tn : Nat) (hp : place - 1 = (pn : Int)) (f : WF ts.length ws who pn tn) (h : WH w0 vt vw ts ws) (gl bt : Nat) (vtk : Value) : T3 Try.prog (fun a w => (LW w0 gl bt vw vtk ts.length ws who pn tn w) ∧ Fr 59 [(10, .pointer (some ⟨w0.heap.size, 0, none⟩)), (14, .pointer (some ⟨gl, 0, none⟩)), (15, .int .i64 (ws.sum ^ tn))] a) (sel [1, 1, 1, 1, 1, 1, 1, 0] ccP) (fun a w => (RC w0 w (fN (wayF (fun i => geti ws (i : Int)) ts.length pn who tn []) (ws.sum ^ tn)) (fD (wayF (fun i => geti ws (i : Int)) ts.length pn who tn []) (ws.sum ^ tn))) ∧ Fr 59 [(10, .pointer (some ⟨w0.heap.size, 0, none⟩)), (11, .int .i64 0)] a) No 9 No := by
  refine T3.leaf ?_
  rintro Q JS JX JT K hS hK hX hE hT hR a w ⟨hW, ⟨fr, rfl, q10, q14, q15, _⟩⟩
  have hsb := sum_b f
  have ht4 := f.ht
  have hb := pow_b hsb.1 hsb.2 tn ht4
  have hwb := way_small f tn [] (Have.nil _) (by simp)
  have hc := ways_all tn w gl bt vw vtk ts.length ws who pn tn [] f (Have.nil _) (by simp) hW.g0 hW.wv hW.tv hW.wy
  rw [show ((([] : List Nat).length : Nat) : Int) = 0 from rfl] at hc
  have HC := Lib.hid hc
  have HW := Lib.hid hW
  clear hc hW
  generalize wayF (fun i => geti ws (i : Int)) ts.length pn who tn [] = wv at *
  generalize ws.sum ^ tn = al at *
  rw [fr_ccP, show fr 10 = _ from q10, show fr 14 = _ from q14, show fr 15 = _ from q15]
  clear q10 q14 q15
  conv => arg 2; whnf
  go_wp2_with fail
  refine HC.out.mono ?_
  rintro e w1 ⟨rfl, hY⟩
  have hone := HW.out.one.grown hY.gr (fun k e => Nat.lt_of_lt_of_le HW.out.b0 (hY.tk.lt k e).1)
  clear hY HC HW
  go_wp2_with fail
  refine (fractionG_prog wv al w1 (by omega) (by omega) (by omega) (by omega)).mono ?_
  rintro e w2 ⟨rfl, hB⟩
  have h2 := hone.below hB
  clear hB hone
  have c0 := h2.rc.c0
  have c1 := h2.rc.c1
  have f0 := h2.f0
  have f1 := h2.f1
  have HR := Lib.hid (h2.put (fN wv al) (fD wv al))
  clear h2
  go_wp2_with fail
  refine Met.intro (hS _ _ ?_)
  exact ⟨HR.out, Fr.of _ rfl ⟨rfl, rfl, trivial⟩⟩

set_option maxRecDepth 100000 in
set_option maxHeartbeats 1000000 in
theorem cc_good (w0 : World) (vt vw : Value) (ts : List ByteArray) (ws : List Int) (place : Int) (who pn tn : Nat) (hp : place - 1 = (pn : Int)) (f : WF ts.length ws who pn tn) (h : WH w0 vt vw ts ws) : T3 Try.prog (fun a w => (One w0 w) ∧ Fr 59 [(0, vt), (1, vw), (3, .int .i64 place), (4, .int .i64 (tn : Nat)), (10, .pointer (some ⟨w0.heap.size, 0, none⟩)), (13, .int .i64 (who : Nat))] a) (sel [1, 1, 1, 1] ccP) No No 9 (fun a w => Fr 59 [(10, .pointer (some ⟨w0.heap.size, 0, none⟩)), (11, .int .i64 0)] a ∧ RC w0 w (fN (wayF (fun i => geti ws (i : Int)) ts.length pn who tn []) (ws.sum ^ tn)) (fD (wayF (fun i => geti ws (i : Int)) ts.length pn who tn []) (ws.sum ^ tn))) := by
  refine T3.seq (s := (sel [1, 1, 1, 1, 0] ccP)) (c := (sel [1, 1, 1, 1, 1] ccP)) ((cc9 w0 vt vw ts ws place who pn tn hp f h).mono (fun _ _ q => q) (fun _ _ q => q) (fun _ _ q => q.elim) (fun _ _ q => q)) ?_
  refine T3.ex fun gl => T3.ex fun bt => T3.ex fun vtk => ?_
  refine T3.seq (s := (sel [1, 1, 1, 1, 1, 0] ccP)) (c := (sel [1, 1, 1, 1, 1, 1] ccP)) ((cc10 w0 vt vw ts ws place who pn tn hp f h gl bt vtk).mono (fun _ _ q => q) (fun _ _ q => q) (fun _ _ q => q.elim) (fun _ _ q => q)) ?_
  refine T3.seq (s := (sel [1, 1, 1, 1, 1, 1, 0] ccP)) (c := (sel [1, 1, 1, 1, 1, 1, 1] ccP)) (T3.seq (s := (sel [1, 1, 1, 1, 1, 1, 0, 0] ccP)) (c := (sel [1, 1, 1, 1, 1, 1, 0, 1] ccP)) ((cc11 w0 vt vw ts ws place who pn tn hp f h gl bt vtk).mono (fun _ _ q => q) (fun _ _ q => q) (fun _ _ q => q.elim) (fun _ _ q => q)) ((ccaloop w0 vt vw ts ws place who pn tn hp f h gl bt vtk).mono (fun _ _ q => q) (fun _ _ q => q) (fun _ _ q => q.elim) (fun _ _ q => q))) ?_
  exact T3.seq (s := (sel [1, 1, 1, 1, 1, 1, 1, 0] ccP)) (c := .ret) ((cc15 w0 vt vw ts ws place who pn tn hp f h gl bt vtk).mono (fun _ _ q => q) (fun _ _ q => q) (fun _ _ q => q.elim) (fun _ _ q => q)) (T3.ret fun a w q => ⟨q.2, q.1⟩)
set_option maxRecDepth 100000 in
set_option maxHeartbeats 1000000 in
theorem cc_all (w0 : World) (vt vw : Value) (ts : List ByteArray) (ws : List Int) (team : ByteArray) (place top : Int) (h : WH w0 vt vw ts ws) : T3 Try.prog (fun a w => (IsW w0 w) ∧ Fr 59 [(0, vt), (1, vw), (2, .string team), (3, .int .i64 place), (4, .int .i64 top)] a) ccP No No 9 (fun a w => Fr 59 [(10, .pointer (some ⟨w0.heap.size, 0, none⟩)), (11, .int .i64 (chanceE ts ws team place top))] a ∧ RC w0 w (chN ts ws team place top) (chD ts ws team place top)) := by
  refine T3.seq (s := (sel [0] ccP)) (c := (sel [1] ccP)) ((cc0 w0 vt vw ts ws team place top h).mono (fun _ _ q => q) (fun _ _ q => q) (fun _ _ q => q.elim) (fun _ _ q => q)) ?_
  refine T3.seq (s := (sel [1, 0] ccP)) (c := (sel [1, 1] ccP)) (S := fun a w => (topE ts ws top = 0) ∧ (One w0 w) ∧ Fr 59 [(0, vt), (1, vw), (2, .string team), (3, .int .i64 place), (4, .int .i64 top), (10, .pointer (some ⟨w0.heap.size, 0, none⟩))] a) ?_ (T3.pure fun hE => ?_)
  · refine T3.seq (s := (sel [1, 0, 0] ccP)) (c := (sel [1, 0, 1] ccP)) ((cc1 w0 vt vw ts ws team place top h).mono (fun _ _ q => q) (fun _ _ q => q) (fun _ _ q => q.elim) (fun _ _ q => q)) ?_
    refine T3.test (s := (sel [1, 0, 1, 0] ccP)) (x := (sel [1, 0, 1, 1, 2] ccP)) (y := .skip) (C := fun q => (q = (topE ts ws top != 0))) (W := fun w => One w0 w) (by decide) ((cc2 w0 vt vw ts ws team place top h).mono (fun _ _ q => q) (fun _ _ q => q) (fun _ _ q => q.elim) (fun _ _ q => q)) ?_ (T3.skip ?_)
    · refine T3.seq (s := (sel [1, 0, 1, 1, 2, 0] ccP)) (c := .ret) (t3_seqx (p := topE ts ws top ≠ 0) ((cc3 w0 vt vw ts ws team place top h).mono (fun _ _ q => q) (fun _ _ q => q) (fun _ _ q => q.elim) (fun _ _ q => q)) ?_) (T3.ret ?_)
      · rintro a w ⟨hF, hq, hW⟩
        exact ⟨by have := hq.symm; simpa using this, hW, hF.tail⟩
      · rintro a w ⟨hp, hW, hF⟩
        have hd := ch_top (team := team) (place := place) hp
        have hb := ch_bad (by rw [hd]; exact hp)
        rw [hb.1, hb.2, hd]
        exact ⟨hF, hW⟩
    · rintro a w ⟨hq, hW, hF⟩
      exact ⟨by have := hq.symm; simpa using this, hW, hF.sub (by simp)⟩
  refine T3.seq (s := (sel [1, 1, 0] ccP)) (c := (sel [1, 1, 1] ccP)) ((cc4 w0 vt vw ts ws team place top h).mono (fun _ _ q => q) (fun _ _ q => q) (fun _ _ q => q.elim) (fun _ _ q => q)) ?_
  refine T3.seq (s := (sel [1, 1, 1, 0] ccP)) (c := (sel [1, 1, 1, 1] ccP)) (S := fun a w => (hasS ts team = true ∧ outB place 1 ts.length = false) ∧ (One w0 w) ∧ Fr 59 [(0, vt), (1, vw), (2, .string team), (3, .int .i64 place), (4, .int .i64 top), (10, .pointer (some ⟨w0.heap.size, 0, none⟩)), (13, .int .i64 (whoI ts team))] a) ?_ (T3.pure fun hP => ?_)
  · refine T3.block (id' := 0) (c := (sel [1, 1, 1, 0, 4] ccP)) (by decide) ?_
    refine T3.seq (s := (sel [1, 1, 1, 0, 4, 0] ccP)) (c := .cond (.tmp 27) (sel [1, 1, 1, 0, 4, 1, 2] ccP) (sel [1, 1, 1, 0, 4, 1, 3] ccP)) ((cc5 w0 vt vw ts ws team place top h).mono (fun _ _ q => q) (fun _ _ q => q) (fun _ _ q => q.elim) (fun _ _ q => q)) ?_
    refine T3.iff (M := fun q w => (q = decide (whoI ts team < 0)) ∧ One w0 w) (by decide) ?_ ?_
    · refine T3.seq (s := (sel [1, 1, 1, 0, 4, 1, 2, 0] ccP)) (c := .ret) (t3_seqx (p := hasS ts team = false) ((cc6 w0 vt vw ts ws team place top h).mono (fun _ _ q => q) (fun _ _ q => q) (fun _ _ q => q.elim) (fun _ _ q => q)) ?_) (T3.ret ?_)
      · rintro a w ⟨hF, hq, hW⟩
        exact ⟨by rw [whoI_has]; have := hq.symm; simp at this ⊢; omega, hW, hF.tail⟩
      · rintro a w ⟨hp, hW, hF⟩
        have hd := ch_none (place := place) hE hp
        have hb := ch_bad (by rw [hd]; decide)
        rw [hb.1, hb.2, hd]
        exact ⟨hF, hW⟩
    · refine T3.pre (R := fun a w => (hasS ts team = true) ∧ (One w0 w) ∧ Fr 59 [(0, vt), (1, vw), (2, .string team), (3, .int .i64 place), (4, .int .i64 top), (10, .pointer (some ⟨w0.heap.size, 0, none⟩)), (13, .int .i64 (whoI ts team))] a) (T3.pure fun hH => ?_) ?_
      · refine T3.test (s := (sel [1, 1, 1, 0, 4, 1, 3, 0] ccP)) (x := (sel [1, 1, 1, 0, 4, 1, 3, 1, 2] ccP)) (y := .skip) (C := fun q => (q = outB place 1 ts.length)) (W := fun w => One w0 w) (by decide) ((cc7 w0 vt vw ts ws team place top h).mono (fun _ _ q => q) (fun _ _ q => q) (fun _ _ q => q.elim) (fun _ _ q => q)) ?_ (T3.skip ?_)
        · refine T3.seq (s := (sel [1, 1, 1, 0, 4, 1, 3, 1, 2, 0] ccP)) (c := .ret) (t3_seqx (p := outB place 1 ts.length = true) ((cc8 w0 vt vw ts ws team place top h).mono (fun _ _ q => q) (fun _ _ q => q) (fun _ _ q => q.elim) (fun _ _ q => q)) ?_) (T3.ret ?_)
          · rintro a w ⟨hF, hq, hW⟩
            exact ⟨hq.symm, hW, hF.tail⟩
          · rintro a w ⟨hp, hW, hF⟩
            have hd := ch_arg hE hH hp
            have hb := ch_bad (by rw [hd]; decide)
            rw [hb.1, hb.2, hd]
            exact ⟨hF, hW⟩
        · rintro a w ⟨hq, hW, hF⟩
          exact ⟨⟨hH, hq.symm⟩, hW, hF⟩
      · rintro a w ⟨hF, hq, hW⟩
        exact ⟨by rw [whoI_has]; have := hq.symm; simp at this ⊢; omega, hW, hF.tail⟩
  obtain ⟨f, hw0, hp1, ht0⟩ := ch_wf hE hP.1 hP.2
  have hd := ch_ok hE hP.1 hP.2
  refine (cc_good w0 vt vw ts ws place (whoI ts team).toNat (place - 1).toNat top.toNat (by omega) f h).mono ?_ (fun _ _ q => q) ?_ (fun _ _ q => q)
  · rintro a w ⟨hW, hF⟩
    refine ⟨hW, ?_⟩
    rw [Int.toNat_of_nonneg ht0, Int.toNat_of_nonneg hw0]
    exact hF.sub (by simp)
  · rintro a w ⟨hF, hW⟩
    rw [hd]
    unfold chN chD
    rw [if_pos hd, if_pos hd]
    exact ⟨hF, hW⟩

set_option maxRecDepth 100000 in
set_option maxHeartbeats 1000000 in
theorem chance_prog (w0 : World) (vt vw : Value) (ts : List ByteArray) (ws : List Int) (team : ByteArray) (place top : Int) (h : WH w0 vt vw ts ws) : Calls Try.prog 12 #[vt, vw, .string team, .int .i64 place, .int .i64 top] w0 fun e w' => e = .returned (.tuple #[.agg #[.int .i64 (chN ts ws team place top), .int .i64 (chD ts ws team place top)], .int .i64 (chanceE ts ws team place top)]) ∧ Below w0.heap.size w0 w' := by
  have hall := cc_all w0 vt vw ts ws team place top h
  go_enter Try.func12, Try.ntmps12
  refine T3.done (s := ccP) hall ⟨rfl, Fr.of _ rfl ⟨rfl, rfl, rfl, rfl, rfl, trivial⟩⟩ ?_
  rintro a w ⟨⟨fr, rfl, q10, q11, _⟩, hW⟩
  have r0 := hW.c0
  have r1 := hW.c1
  rw [fr_ccP, show fr 10 = _ from q10, show fr 11 = _ from q11]
  exact bodyPost_ret (v := .tuple #[.agg #[.int .i64 (chN ts ws team place top), .int .i64 (chD ts ws team place top)], .int .i64 (chanceE ts ws team place top)]) (by simp [results, Try.results12, go_sem, r0, r1]) rfl ⟨rfl, hW.bel⟩
end Go.Proofs.Ytkdimgghljklmaa
/-
  Lots: who gets which place, the program's Draw, from end to end. Conditions: as before.
-/
set_option linter.unusedVariables false
namespace Go.Proofs.Ytkdimgghljklmaa
open Go.RowKit Go.Bw
set_option maxRecDepth 100000 in
set_option maxHeartbeats 1000000 in
theorem drb (w0 : World) (vt vw vl : Value) (ts : List ByteArray) (ws lots : List Int) (h : DH w0 vt vw vl ts ws lots) (d : DG ts ws lots) (v12 : Value) (k : Int) : T3 Try.prog (fun a w => ∃ (v13 : Value), (0 ≤ k ∧ k < lots.length) ∧ (Dr w0 ts.length ts v12 v13 (HT ts ws lots k) (HT ts ws lots k) w) ∧ Fr 79 [(0, vt), (1, vw), (11, .int .i64 ws.sum), (12, v12), (13, v13), (37, vl), (38, .int .i64 lots.length), (39, .int .i64 k)] a) (sel [1, 1, 1, 1, 1, 1, 0, 1, 4, 4, 1, 1, 0] drP) (fun a w => ∃ (v13 : Value), (0 ≤ k ∧ k < lots.length) ∧ (Dr w0 ts.length ts v12 v13 (HT ts ws lots (k + 1)) (HT ts ws lots (k + 1)) w) ∧ Fr 79 [(0, vt), (1, vw), (11, .int .i64 ws.sum), (12, v12), (13, v13), (37, vl), (38, .int .i64 lots.length), (39, .int .i64 k)] a) No 9 No := by
  refine T3.block (id' := 1) (c := (sel [1, 1, 1, 1, 1, 1, 0, 1, 4, 4, 1, 1, 0, 4] drP)) (by decide) ?_
  exact T3.seq (s := (sel [1, 1, 1, 1, 1, 1, 0, 1, 4, 4, 1, 1, 0, 4, 0] drP)) (c := (sel [1, 1, 1, 1, 1, 1, 0, 1, 4, 4, 1, 1, 0, 4, 1] drP)) (dr12 w0 vt vw vl ts ws lots h d v12 k) (T3.seq (s := (sel [1, 1, 1, 1, 1, 1, 0, 1, 4, 4, 1, 1, 0, 4, 1, 0] drP)) (c := (sel [1, 1, 1, 1, 1, 1, 0, 1, 4, 4, 1, 1, 0, 4, 1, 1] drP)) (dr13 w0 vt vw vl ts ws lots h d v12 k) (T3.seq (s := (sel [1, 1, 1, 1, 1, 1, 0, 1, 4, 4, 1, 1, 0, 4, 1, 1, 0] drP)) (c := (sel [1, 1, 1, 1, 1, 1, 0, 1, 4, 4, 1, 1, 0, 4, 1, 1, 1] drP)) (dr14 w0 vt vw vl ts ws lots h d v12 k) (dr15 w0 vt vw vl ts ws lots h d v12 k)))

def dr1I (w0 : World) (vt vw vl : Value) (ts : List ByteArray) (ws lots : List Int) (h : DH w0 vt vw vl ts ws lots) (d : DG ts ws lots) (v12 : Value) (k : Int) (a : Act) (w : World) : Prop := (0 ≤ k ∧ k ≤ lots.length) ∧ ∃ (v13 : Value), (Dr w0 ts.length ts v12 v13 (HT ts ws lots k) (HT ts ws lots k) w) ∧ Fr 79 [(0, vt), (1, vw), (11, .int .i64 ws.sum), (12, v12), (13, v13), (37, vl), (38, .int .i64 lots.length), (39, .int .i64 k)] a
set_option maxRecDepth 100000 in
set_option maxHeartbeats 1000000 in
theorem dr1t (w0 : World) (vt vw vl : Value) (ts : List ByteArray) (ws lots : List Int) (h : DH w0 vt vw vl ts ws lots) (d : DG ts ws lots) (v12 : Value) (k : Int) : T3 Try.prog (fun a w => dr1I w0 vt vw vl ts ws lots h d v12 k a w) (sel [1, 1, 1, 1, 1, 1, 0, 1, 4, 4, 0] drP) (fun a w => ∃ q, Fr 79 ((40, .bool q) :: [(39, .int .i64 k)]) a ∧ ((q = true ↔ k < lots.length) ∧ dr1I w0 vt vw vl ts ws lots h d v12 k a w)) No 9 No := by
  refine T3.leaf ?_
  rintro Q JS JX JT K hS hK hX hE hT hR a w ⟨hk, v13, hW, ⟨fr, rfl, q0, q1, q11, q12, q13, q37, q38, q39, _⟩⟩
  have hl := h.ln
  rw [fr_drP, show fr 0 = _ from q0, show fr 1 = _ from q1, show fr 11 = _ from q11, show fr 12 = _ from q12, show fr 13 = _ from q13, show fr 37 = _ from q37, show fr 38 = _ from q38, show fr 39 = _ from q39]
  clear q0 q1 q11 q12 q13 q37 q38 q39
  conv => arg 2; whnf
  by_cases hlt : k < lots.length
  · go_wp2_with fail
    refine Met.intro (hS _ _ ?_)
    exact ⟨true, Fr.of _ rfl ⟨rfl, rfl, trivial⟩, ⟨fun _ => hlt, fun _ => rfl⟩, hk, v13, hW, Fr.of _ rfl ⟨rfl, rfl, rfl, rfl, rfl, rfl, rfl, rfl, trivial⟩⟩
  · have hpb : decide (k < (lots.length : Int)) = false := by simp; omega
    go_wp2_with fail
    refine Met.intro (hS _ _ ?_)
    exact ⟨false, Fr.of _ rfl ⟨rfl, rfl, trivial⟩, ⟨(fun h => by cases h), fun h => absurd h (by omega)⟩, hk, v13, hW, Fr.of _ rfl ⟨rfl, rfl, rfl, rfl, rfl, rfl, rfl, rfl, trivial⟩⟩

set_option maxRecDepth 100000 in
set_option maxHeartbeats 1000000 in
theorem dr1n (w0 : World) (vt vw vl : Value) (ts : List ByteArray) (ws lots : List Int) (h : DH w0 vt vw vl ts ws lots) (d : DG ts ws lots) (v12 : Value) (k : Int) : T3 Try.prog (fun a w => (0 ≤ k ∧ k < lots.length) ∧ ∃ (v13 : Value), (Dr w0 ts.length ts v12 v13 (HT ts ws lots (k + 1)) (HT ts ws lots (k + 1)) w) ∧ Fr 79 [(0, vt), (1, vw), (11, .int .i64 ws.sum), (12, v12), (13, v13), (37, vl), (38, .int .i64 lots.length), (39, .int .i64 k)] a) (sel [1, 1, 1, 1, 1, 1, 0, 1, 4, 4, 1, 1, 1] drP) (fun a w => dr1I w0 vt vw vl ts ws lots h d v12 (k + 1) a w) No 9 No := by
  refine T3.leaf ?_
  rintro Q JS JX JT K hS hK hX hE hT hR a w ⟨hk, v13, hW, ⟨fr, rfl, q0, q1, q11, q12, q13, q37, q38, q39, _⟩⟩
  obtain ⟨hk0, hk1⟩ := hk
  have hl := h.ln
  rw [fr_drP, show fr 0 = _ from q0, show fr 1 = _ from q1, show fr 11 = _ from q11, show fr 12 = _ from q12, show fr 13 = _ from q13, show fr 37 = _ from q37, show fr 38 = _ from q38, show fr 39 = _ from q39]
  clear q0 q1 q11 q12 q13 q37 q38 q39
  conv => arg 2; whnf
  go_wp2_with fail
  refine Met.intro (hS _ _ ?_)
  exact ⟨⟨by omega, by omega⟩, v13, hW, Fr.of _ rfl ⟨rfl, rfl, rfl, rfl, rfl, rfl, rfl, rfl, trivial⟩⟩

set_option maxRecDepth 100000 in
set_option maxHeartbeats 1000000 in
theorem dr1loop (w0 : World) (vt vw vl : Value) (ts : List ByteArray) (ws lots : List Int) (h : DH w0 vt vw vl ts ws lots) (d : DG ts ws lots) (v12 : Value) : T3 Try.prog (fun a w => dr1I w0 vt vw vl ts ws lots h d v12 0 a w) (sel [1, 1, 1, 1, 1, 1, 0, 1] drP) (fun a w => ∃ (v13 : Value), (Dr w0 ts.length ts v12 v13 (HT ts ws lots lots.length) (HT ts ws lots lots.length) w) ∧ Fr 79 [(0, vt), (12, v12), (13, v13)] a) No 9 No := by
  refine T3.loop (c := (sel [1, 1, 1, 1, 1, 1, 0, 1, 4, 4] drP)) (fun n a w => ∃ k : Int, (n : Int) = lots.length - k ∧ dr1I w0 vt vw vl ts ws lots h d v12 k a w) (fun a w h => ⟨(lots.length : Int).toNat, 0, by have := h.1.2; omega, h⟩) (fun n => T3.ex fun k => T3.pure fun hn => ?_)
  refine T3.seq (s := (sel [1, 1, 1, 1, 1, 1, 0, 1, 4, 4, 0] drP)) (c := (sel [1, 1, 1, 1, 1, 1, 0, 1, 4, 4, 1] drP)) ((dr1t w0 vt vw vl ts ws lots h d v12 k).noX) ?_
  refine T3.seq (s := (sel [1, 1, 1, 1, 1, 1, 0, 1, 4, 4, 1, 0] drP)) (c := (sel [1, 1, 1, 1, 1, 1, 0, 1, 4, 4, 1, 1] drP)) (S := fun a w => (0 ≤ k ∧ k < lots.length) ∧ ∃ (v13 : Value), (Dr w0 ts.length ts v12 v13 (HT ts ws lots k) (HT ts ws lots k) w) ∧ Fr 79 [(0, vt), (1, vw), (11, .int .i64 ws.sum), (12, v12), (13, v13), (37, vl), (38, .int .i64 lots.length), (39, .int .i64 k)] a) ?_ (T3.seq (s := (sel [1, 1, 1, 1, 1, 1, 0, 1, 4, 4, 1, 1, 0] drP)) (c := (sel [1, 1, 1, 1, 1, 1, 0, 1, 4, 4, 1, 1, 1] drP)) (S := fun a w => (0 ≤ k ∧ k < lots.length) ∧ ∃ (v13 : Value), (Dr w0 ts.length ts v12 v13 (HT ts ws lots (k + 1)) (HT ts ws lots (k + 1)) w) ∧ Fr 79 [(0, vt), (1, vw), (11, .int .i64 ws.sum), (12, v12), (13, v13), (37, vl), (38, .int .i64 lots.length), (39, .int .i64 k)] a) (T3.noX (T3.mono (R' := fun a w => (0 ≤ k ∧ k < lots.length) ∧ ∃ (v13 : Value), (Dr w0 ts.length ts v12 v13 (HT ts ws lots k) (HT ts ws lots k) w) ∧ Fr 79 [(0, vt), (1, vw), (11, .int .i64 ws.sum), (12, v12), (13, v13), (37, vl), (38, .int .i64 lots.length), (39, .int .i64 k)] a) (S' := fun a w => (0 ≤ k ∧ k < lots.length) ∧ ∃ (v13 : Value), (Dr w0 ts.length ts v12 v13 (HT ts ws lots (k + 1)) (HT ts ws lots (k + 1)) w) ∧ Fr 79 [(0, vt), (1, vw), (11, .int .i64 ws.sum), (12, v12), (13, v13), (37, vl), (38, .int .i64 lots.length), (39, .int .i64 k)] a) (drb w0 vt vw vl ts ws lots h d v12 k) (fun a w ⟨hk, v13, hI⟩ => ⟨v13, hk, hI⟩) (fun a w ⟨v13, hk, hI⟩ => ⟨hk, v13, hI⟩) (fun _ _ q => q) (fun _ _ q => q))) ?_)
  · refine T3.cond (o := .tmp 40) (x := .skip) (y := .exit 0) (fun a w => k < lots.length ∧ dr1I w0 vt vw vl ts ws lots h d v12 k a w) (fun a w => ¬ k < lots.length ∧ dr1I w0 vt vw vl ts ws lots h d v12 k a w) ?_ (T3.skip ?_) (T3.exit ?_)
    · rintro a w ⟨q, hF, hq, hI⟩
      have he := hF.eval 40 (by decide) (v := .bool q) (by simp)
      cases q
      · exact .inr ⟨he, (fun h => by have := hq.2 h; cases this), hI⟩
      · exact .inl ⟨he, hq.1 rfl, hI⟩
    · rintro a w ⟨hlt, hk, hI⟩
      exact ⟨⟨hk.1, hlt⟩, hI⟩
    · rintro a w ⟨hlt, hk, hI⟩
      obtain rfl : k = lots.length := by omega
      obtain ⟨v13, hW, hF⟩ := hI
      exact ⟨v13, hW, hF.sub (by simp)⟩
  · intro a w hx
    have hk := hx.1
    exact (((dr1n w0 vt vw vl ts ws lots h d v12 k).noX).post (fun a w q => ⟨n - 1, by omega, k + 1, by omega, q⟩)) a w hx
set_option maxRecDepth 100000 in
set_option maxHeartbeats 1000000 in
theorem dr10 (w0 : World) (vt vw vl : Value) (ts : List ByteArray) (ws lots : List Int) (h : DH w0 vt vw vl ts ws lots) (d : DG ts ws lots) (v12 : Value) : T3 Try.prog (fun a w => (Dr w0 ts.length ts v12 (.slice none 0 0) [] [] w) ∧ Fr 79 [(0, vt), (1, vw), (2, vl), (11, .int .i64 ws.sum), (12, v12), (13, .slice none 0 0)] a) (sel [1, 1, 1, 1, 1, 1, 0, 0] drP) (fun a w => (0 ≤ (0 : Int) ∧ (0 : Int) ≤ lots.length) ∧ ∃ (v13 : Value), (Dr w0 ts.length ts v12 v13 (HT ts ws lots 0) (HT ts ws lots 0) w) ∧ Fr 79 [(0, vt), (1, vw), (11, .int .i64 ws.sum), (12, v12), (13, v13), (37, vl), (38, .int .i64 lots.length), (39, .int .i64 0)] a) No 9 No := by
  refine T3.leaf ?_
  rintro Q JS JX JT K hS hK hX hE hT hR a w ⟨hW, ⟨fr, rfl, q0, q1, q2, q11, q12, q13, _⟩⟩
  obtain ⟨p3, c3, hv3⟩ := h.l.shape
  subst hv3
  rw [fr_drP, show fr 0 = _ from q0, show fr 1 = _ from q1, show fr 2 = _ from q2, show fr 11 = _ from q11, show fr 12 = _ from q12, show fr 13 = _ from q13]
  clear q0 q1 q2 q11 q12 q13
  conv => arg 2; whnf
  go_wp2_with fail
  refine Met.intro (hS _ _ ?_)
  exact ⟨⟨by omega, by omega⟩, _, hW, Fr.of _ rfl ⟨rfl, rfl, rfl, rfl, rfl, rfl, rfl, rfl, trivial⟩⟩

set_option maxRecDepth 100000 in
set_option maxHeartbeats 1000000 in
theorem dr17 (w0 : World) (vt vw vl : Value) (ts : List ByteArray) (ws lots : List Int) (h : DH w0 vt vw vl ts ws lots) (d : DG ts ws lots) (v12 : Value) : T3 Try.prog (fun a w => ∃ (v13 : Value), (Dr w0 ts.length ts v12 v13 (HT ts ws lots lots.length) (HT ts ws lots lots.length) w) ∧ Fr 79 [(0, vt), (12, v12), (13, v13)] a) (sel [1, 1, 1, 1, 1, 1, 1, 0, 0] drP) (fun a w => (0 ≤ (0 : Int) ∧ (0 : Int) ≤ ts.length) ∧ ∃ (v13 : Value), (Dr w0 ts.length ts v12 v13 (HT ts ws lots lots.length) (HT ts ws lots lots.length ++ restTo (HT ts ws lots lots.length) (0 : Int).toNat) w) ∧ Fr 79 [(0, vt), (12, v12), (13, v13), (61, vt), (62, .int .i64 ts.length), (63, .int .i64 0)] a) No 9 No := by
  refine T3.leaf ?_
  rintro Q JS JX JT K hS hK hX hE hT hR a w ⟨v13, hW, ⟨fr, rfl, q0, q12, q13, _⟩⟩
  obtain ⟨p3, c3, hv3⟩ := h.h.t.shape
  subst hv3
  have h0 : HT ts ws lots lots.length ++ restTo (HT ts ws lots lots.length) (0 : Int).toNat = HT ts ws lots lots.length := by simp [restTo]
  have H0 := Lib.hid h0
  clear h0
  rw [fr_drP, show fr 0 = _ from q0, show fr 12 = _ from q12, show fr 13 = _ from q13]
  clear q0 q12 q13
  conv => arg 2; whnf
  go_wp2_with fail
  refine Met.intro (hS _ _ ?_)
  exact ⟨⟨by omega, by omega⟩, _, (by rw [H0.out]; exact hW), Fr.of _ rfl ⟨rfl, rfl, rfl, rfl, rfl, rfl, trivial⟩⟩

set_option maxRecDepth 100000 in
set_option maxHeartbeats 1000000 in
theorem dr19 (w0 : World) (vt vw vl : Value) (ts : List ByteArray) (ws lots : List Int) (h : DH w0 vt vw vl ts ws lots) (d : DG ts ws lots) (v12 : Value) (k : Int) : T3 Try.prog (fun a w => ∃ (v13 : Value), (0 ≤ k ∧ k < ts.length) ∧ (Dr w0 ts.length ts v12 v13 (HT ts ws lots lots.length) (HT ts ws lots lots.length ++ restTo (HT ts ws lots lots.length) (k : Int).toNat) w) ∧ Fr 79 [(0, vt), (12, v12), (13, v13), (61, vt), (62, .int .i64 ts.length), (63, .int .i64 k)] a) (sel [1, 1, 1, 1, 1, 1, 1, 0, 1, 4, 4, 1, 1, 0, 4, 0] drP) (fun a w => ∃ (v13 : Value), (0 ≤ k ∧ k < ts.length) ∧ (Dr w0 ts.length ts v12 v13 (HT ts ws lots lots.length) (HT ts ws lots lots.length ++ restTo (HT ts ws lots lots.length) (k : Int).toNat) w) ∧ Fr 79 [(0, vt), (12, v12), (13, v13), (17, .int .i64 k), (18, .string (geta ts k)), (61, vt), (62, .int .i64 ts.length), (63, .int .i64 k)] a) No 9 No := by
  refine T3.leaf ?_
  rintro Q JS JX JT K hS hK hX hE hT hR a w ⟨v13, hpre, hW, ⟨fr, rfl, q0, q12, q13, q61, q62, q63, _⟩⟩
  obtain ⟨hk0, hk1⟩ := hpre
  obtain ⟨_, hcs⟩ := (h.h.t.below hW.bel).els encSt_length (by decide)
  rcases hcs with ⟨rfl, h0⟩ | ⟨bz, off, cap, rfl, _, hbz, hnc, hcm, hcell⟩
  · omega
  have t0 := hcell k hk0 hk1 0 _ rfl
  rw [Nat.mul_one, Nat.add_zero] at t0
  clear hcell
  rw [fr_drP, show fr 0 = _ from q0, show fr 12 = _ from q12, show fr 13 = _ from q13, show fr 61 = _ from q61, show fr 62 = _ from q62, show fr 63 = _ from q63]
  clear q0 q12 q13 q61 q62 q63
  conv => arg 2; whnf
  go_wp2_with fail
  refine Met.intro (hS _ _ ?_)
  exact ⟨v13, ⟨hk0, hk1⟩, hW, Fr.of _ rfl ⟨rfl, rfl, rfl, rfl, rfl, rfl, rfl, rfl, trivial⟩⟩

set_option maxRecDepth 100000 in
set_option maxHeartbeats 1000000 in
theorem dr20 (w0 : World) (vt vw vl : Value) (ts : List ByteArray) (ws lots : List Int) (h : DH w0 vt vw vl ts ws lots) (d : DG ts ws lots) (v12 : Value) (k : Int) (v13 : Value) : T3 Try.prog (fun a w => (0 ≤ k ∧ k < ts.length) ∧ (Dr w0 ts.length ts v12 v13 (HT ts ws lots lots.length) (HT ts ws lots lots.length ++ restTo (HT ts ws lots lots.length) (k : Int).toNat) w) ∧ Fr 79 [(0, vt), (12, v12), (13, v13), (17, .int .i64 k), (18, .string (geta ts k)), (61, vt), (62, .int .i64 ts.length), (63, .int .i64 k)] a) (sel [1, 1, 1, 1, 1, 1, 1, 0, 1, 4, 4, 1, 1, 0, 4, 1, 0] drP) (fun a w => ∃ q, Fr 79 ((72, .bool q) :: [(0, vt), (12, v12), (13, v13), (17, .int .i64 k), (18, .string (geta ts k)), (61, vt), (62, .int .i64 ts.length), (63, .int .i64 k)]) a ∧ (((0 ≤ k ∧ k < ts.length) ∧ q = !(HT ts ws lots lots.length).contains k.toNat) ∧ Dr w0 ts.length ts v12 v13 (HT ts ws lots lots.length) (HT ts ws lots lots.length ++ restTo (HT ts ws lots lots.length) (k : Int).toNat) w)) No 9 No := by
  refine T3.leaf ?_
  rintro Q JS JX JT K hS hK hX hE hT hR a w ⟨hpre, hW, ⟨fr, rfl, q0, q12, q13, q17, q18, q61, q62, q63, _⟩⟩
  have hpp := Lib.hid hpre
  obtain ⟨hk0, hk1⟩ := hpre
  obtain ⟨g, c, hv12⟩ := hW.blk (by omega)
  subst hv12
  obtain ⟨hc, _⟩ := hW.cell k.toNat (by omega)
  have HW := Lib.hid hW
  clear hW
  generalize (HT ts ws lots lots.length).contains k.toNat = q at *
  rw [fr_drP, show fr 0 = _ from q0, show fr 12 = _ from q12, show fr 13 = _ from q13, show fr 17 = _ from q17, show fr 18 = _ from q18, show fr 61 = _ from q61, show fr 62 = _ from q62, show fr 63 = _ from q63]
  clear q0 q12 q13 q17 q18 q61 q62 q63
  conv => arg 2; whnf
  go_wp2_with fail
  have hpre := hpp.out
  refine Met.intro (hS _ _ ?_)
  exact ⟨_, Fr.of _ rfl ⟨rfl, rfl, rfl, rfl, rfl, rfl, rfl, rfl, rfl, trivial⟩, ⟨hpre, rfl⟩, HW.out⟩

set_option maxRecDepth 100000 in
set_option maxHeartbeats 1000000 in
theorem dr21 (w0 : World) (vt vw vl : Value) (ts : List ByteArray) (ws lots : List Int) (h : DH w0 vt vw vl ts ws lots) (d : DG ts ws lots) (v12 : Value) (k : Int) (v13 : Value) : T3 Try.prog (fun a w => Fr 79 ((72, .bool true) :: [(0, vt), (12, v12), (13, v13), (17, .int .i64 k), (18, .string (geta ts k)), (61, vt), (62, .int .i64 ts.length), (63, .int .i64 k)]) a ∧ ((0 ≤ k ∧ k < ts.length) ∧ true = !(HT ts ws lots lots.length).contains k.toNat) ∧ Dr w0 ts.length ts v12 v13 (HT ts ws lots lots.length) (HT ts ws lots lots.length ++ restTo (HT ts ws lots lots.length) (k : Int).toNat) w) (sel [1, 1, 1, 1, 1, 1, 1, 0, 1, 4, 4, 1, 1, 0, 4, 1, 1, 2] drP) (fun a w => ∃ (v13 : Value), (0 ≤ k ∧ k < ts.length) ∧ (Dr w0 ts.length ts v12 v13 (HT ts ws lots lots.length) (HT ts ws lots lots.length ++ restTo (HT ts ws lots lots.length) ((k + 1) : Int).toNat) w) ∧ Fr 79 [(0, vt), (12, v12), (13, v13), (61, vt), (62, .int .i64 ts.length), (63, .int .i64 k)] a) No 9 No := by
  refine T3.leaf ?_
  rintro Q JS JX JT K hS hK hX hE hT hR a w ⟨⟨fr, rfl, q72, q0, q12, q13, q17, q18, q61, q62, q63, _⟩, ⟨hpre, hq⟩, hW⟩
  obtain ⟨hk0, hk1⟩ := hpre
  have hcn : (HT ts ws lots lots.length).contains k.toNat = false := by simpa using hq.symm
  have Hs := Lib.hid (show restTo (HT ts ws lots lots.length) (k + 1).toNat = restTo (HT ts ws lots lots.length) k.toNat ++ [k.toNat] by rw [show (k + 1).toNat = k.toNat + 1 by omega, restTo_succ, hcn]; rfl)
  have hln := h.ln
  have htn := h.h.tn
  have hr := HT_len ts ws lots lots.length (by omega) (by omega)
  have hrl : (restTo (HT ts ws lots lots.length) k.toNat).length ≤ k.toNat := by unfold restTo; exact Nat.le_trans (List.length_filter_le _ _) (by simp)
  have hgl : (HT ts ws lots lots.length ++ restTo (HT ts ws lots lots.length) k.toNat).length ≤ 2000 := by rw [List.length_append]; omega
  have hkk : ((k.toNat : Nat) : Int) = k := by omega
  have HA := Lib.hid (fun w' v' => Dr.app (w' := w') (v' := v') (j := k.toNat) (hW.alloc (.cells #[.string (geta ts k)] 9)))
  rw [hkk] at HA
  obtain ⟨p9, c9, hv9⟩ := (Row.of_owns hW.out).shape
  subst hv9
  have hE := el_strs
  have hbs := hW.bel.size
  clear hq hcn hkk
  generalize hHK : HT ts ws lots lots.length ++ restTo (HT ts ws lots lots.length) k.toNat = GG at *
  have HH2 := Lib.hid hHK
  clear hHK
  generalize geta ts k = nm at *
  rw [fr_drP, show fr 72 = _ from q72, show fr 0 = _ from q0, show fr 12 = _ from q12, show fr 13 = _ from q13, show fr 17 = _ from q17, show fr 18 = _ from q18, show fr 61 = _ from q61, show fr 62 = _ from q62, show fr 63 = _ from q63]
  clear q72 q0 q12 q13 q17 q18 q61 q62 q63
  conv => arg 2; whnf
  go_wp2_with (at_builtin; refine app_law rfl _ _ _ rfl hE (hW.out.alloc _) rfl [.string nm] rfl rfl (cells_new w #[_] _) (by simp [Value.oneCell']) (by omega) (by simp; omega) ?_; intro v' w3 hown3 hgr)
  refine Met.intro (hS _ _ ?_)
  have := HA.out w3 v' hown3 hgr
  refine ⟨v', ⟨hk0, hk1⟩, ?_, Fr.of _ rfl ⟨rfl, rfl, rfl, rfl, rfl, rfl, trivial⟩⟩
  rw [Hs.out, ← List.append_assoc, HH2.out]
  exact this

set_option maxRecDepth 100000 in
set_option maxHeartbeats 1000000 in
theorem drc (w0 : World) (vt vw vl : Value) (ts : List ByteArray) (ws lots : List Int) (h : DH w0 vt vw vl ts ws lots) (d : DG ts ws lots) (v12 : Value) (k : Int) : T3 Try.prog (fun a w => ∃ (v13 : Value), (0 ≤ k ∧ k < ts.length) ∧ (Dr w0 ts.length ts v12 v13 (HT ts ws lots lots.length) (HT ts ws lots lots.length ++ restTo (HT ts ws lots lots.length) (k : Int).toNat) w) ∧ Fr 79 [(0, vt), (12, v12), (13, v13), (61, vt), (62, .int .i64 ts.length), (63, .int .i64 k)] a) (sel [1, 1, 1, 1, 1, 1, 1, 0, 1, 4, 4, 1, 1, 0] drP) (fun a w => ∃ (v13 : Value), (0 ≤ k ∧ k < ts.length) ∧ (Dr w0 ts.length ts v12 v13 (HT ts ws lots lots.length) (HT ts ws lots lots.length ++ restTo (HT ts ws lots lots.length) ((k + 1) : Int).toNat) w) ∧ Fr 79 [(0, vt), (12, v12), (13, v13), (61, vt), (62, .int .i64 ts.length), (63, .int .i64 k)] a) No 9 No := by
  refine T3.block (id' := 3) (c := (sel [1, 1, 1, 1, 1, 1, 1, 0, 1, 4, 4, 1, 1, 0, 4] drP)) (by decide) ?_
  refine T3.seq (s := (sel [1, 1, 1, 1, 1, 1, 1, 0, 1, 4, 4, 1, 1, 0, 4, 0] drP)) (c := (sel [1, 1, 1, 1, 1, 1, 1, 0, 1, 4, 4, 1, 1, 0, 4, 1] drP)) (dr19 w0 vt vw vl ts ws lots h d v12 k) (T3.ex fun v13 => ?_)
  refine T3.test (s := (sel [1, 1, 1, 1, 1, 1, 1, 0, 1, 4, 4, 1, 1, 0, 4, 1, 0] drP)) (x := (sel [1, 1, 1, 1, 1, 1, 1, 0, 1, 4, 4, 1, 1, 0, 4, 1, 1, 2] drP)) (y := .skip) (C := fun q => ((0 ≤ k ∧ k < ts.length) ∧ q = !(HT ts ws lots lots.length).contains k.toNat)) (W := fun w => Dr w0 ts.length ts v12 v13 (HT ts ws lots lots.length) (HT ts ws lots lots.length ++ restTo (HT ts ws lots lots.length) (k : Int).toNat) w) (by decide) (dr20 w0 vt vw vl ts ws lots h d v12 k v13) (dr21 w0 vt vw vl ts ws lots h d v12 k v13) (T3.skip ?_)
  rintro a w ⟨⟨hp, hq⟩, hW, hF⟩
  refine ⟨v13, hp, ?_, hF.sub (by simp)⟩
  have hcn : (HT ts ws lots lots.length).contains k.toNat = true := by simpa using hq.symm
  rw [show (k + 1).toNat = k.toNat + 1 by omega, restTo_succ, hcn]
  simpa using hW

def dr2I (w0 : World) (vt vw vl : Value) (ts : List ByteArray) (ws lots : List Int) (h : DH w0 vt vw vl ts ws lots) (d : DG ts ws lots) (v12 : Value) (k : Int) (a : Act) (w : World) : Prop := (0 ≤ k ∧ k ≤ ts.length) ∧ ∃ (v13 : Value), (Dr w0 ts.length ts v12 v13 (HT ts ws lots lots.length) (HT ts ws lots lots.length ++ restTo (HT ts ws lots lots.length) (k : Int).toNat) w) ∧ Fr 79 [(0, vt), (12, v12), (13, v13), (61, vt), (62, .int .i64 ts.length), (63, .int .i64 k)] a
set_option maxRecDepth 100000 in
set_option maxHeartbeats 1000000 in
theorem dr2t (w0 : World) (vt vw vl : Value) (ts : List ByteArray) (ws lots : List Int) (h : DH w0 vt vw vl ts ws lots) (d : DG ts ws lots) (v12 : Value) (k : Int) : T3 Try.prog (fun a w => dr2I w0 vt vw vl ts ws lots h d v12 k a w) (sel [1, 1, 1, 1, 1, 1, 1, 0, 1, 4, 4, 0] drP) (fun a w => ∃ q, Fr 79 ((64, .bool q) :: [(63, .int .i64 k)]) a ∧ ((q = true ↔ k < ts.length) ∧ dr2I w0 vt vw vl ts ws lots h d v12 k a w)) No 9 No := by
  refine T3.leaf ?_
  rintro Q JS JX JT K hS hK hX hE hT hR a w ⟨hk, v13, hW, ⟨fr, rfl, q0, q12, q13, q61, q62, q63, _⟩⟩
  have hl := h.h.tn
  rw [fr_drP, show fr 0 = _ from q0, show fr 12 = _ from q12, show fr 13 = _ from q13, show fr 61 = _ from q61, show fr 62 = _ from q62, show fr 63 = _ from q63]
  clear q0 q12 q13 q61 q62 q63
  conv => arg 2; whnf
  by_cases hlt : k < ts.length
  · go_wp2_with fail
    refine Met.intro (hS _ _ ?_)
    exact ⟨true, Fr.of _ rfl ⟨rfl, rfl, trivial⟩, ⟨fun _ => hlt, fun _ => rfl⟩, hk, v13, hW, Fr.of _ rfl ⟨rfl, rfl, rfl, rfl, rfl, rfl, trivial⟩⟩
  · have hpb : decide (k < (ts.length : Int)) = false := by simp; omega
    go_wp2_with fail
    refine Met.intro (hS _ _ ?_)
    exact ⟨false, Fr.of _ rfl ⟨rfl, rfl, trivial⟩, ⟨(fun h => by cases h), fun h => absurd h (by omega)⟩, hk, v13, hW, Fr.of _ rfl ⟨rfl, rfl, rfl, rfl, rfl, rfl, trivial⟩⟩

set_option maxRecDepth 100000 in
set_option maxHeartbeats 1000000 in
theorem dr2n (w0 : World) (vt vw vl : Value) (ts : List ByteArray) (ws lots : List Int) (h : DH w0 vt vw vl ts ws lots) (d : DG ts ws lots) (v12 : Value) (k : Int) : T3 Try.prog (fun a w => (0 ≤ k ∧ k < ts.length) ∧ ∃ (v13 : Value), (Dr w0 ts.length ts v12 v13 (HT ts ws lots lots.length) (HT ts ws lots lots.length ++ restTo (HT ts ws lots lots.length) ((k + 1) : Int).toNat) w) ∧ Fr 79 [(0, vt), (12, v12), (13, v13), (61, vt), (62, .int .i64 ts.length), (63, .int .i64 k)] a) (sel [1, 1, 1, 1, 1, 1, 1, 0, 1, 4, 4, 1, 1, 1] drP) (fun a w => dr2I w0 vt vw vl ts ws lots h d v12 (k + 1) a w) No 9 No := by
  refine T3.leaf ?_
  rintro Q JS JX JT K hS hK hX hE hT hR a w ⟨hk, v13, hW, ⟨fr, rfl, q0, q12, q13, q61, q62, q63, _⟩⟩
  obtain ⟨hk0, hk1⟩ := hk
  have hl := h.h.tn
  rw [fr_drP, show fr 0 = _ from q0, show fr 12 = _ from q12, show fr 13 = _ from q13, show fr 61 = _ from q61, show fr 62 = _ from q62, show fr 63 = _ from q63]
  clear q0 q12 q13 q61 q62 q63
  conv => arg 2; whnf
  go_wp2_with fail
  refine Met.intro (hS _ _ ?_)
  exact ⟨⟨by omega, by omega⟩, v13, hW, Fr.of _ rfl ⟨rfl, rfl, rfl, rfl, rfl, rfl, trivial⟩⟩

set_option maxRecDepth 100000 in
set_option maxHeartbeats 1000000 in
theorem dr2loop (w0 : World) (vt vw vl : Value) (ts : List ByteArray) (ws lots : List Int) (h : DH w0 vt vw vl ts ws lots) (d : DG ts ws lots) (v12 : Value) : T3 Try.prog (fun a w => dr2I w0 vt vw vl ts ws lots h d v12 0 a w) (sel [1, 1, 1, 1, 1, 1, 1, 0, 1] drP) (fun a w => ∃ (v13 : Value), (Dr w0 ts.length ts v12 v13 (HT ts ws lots lots.length) (allL ts.length (HT ts ws lots lots.length)) w) ∧ Fr 79 [(13, v13)] a) No 9 No := by
  refine T3.loop (c := (sel [1, 1, 1, 1, 1, 1, 1, 0, 1, 4, 4] drP)) (fun n a w => ∃ k : Int, (n : Int) = ts.length - k ∧ dr2I w0 vt vw vl ts ws lots h d v12 k a w) (fun a w h => ⟨(ts.length : Int).toNat, 0, by have := h.1.2; omega, h⟩) (fun n => T3.ex fun k => T3.pure fun hn => ?_)
  refine T3.seq (s := (sel [1, 1, 1, 1, 1, 1, 1, 0, 1, 4, 4, 0] drP)) (c := (sel [1, 1, 1, 1, 1, 1, 1, 0, 1, 4, 4, 1] drP)) ((dr2t w0 vt vw vl ts ws lots h d v12 k).noX) ?_
  refine T3.seq (s := (sel [1, 1, 1, 1, 1, 1, 1, 0, 1, 4, 4, 1, 0] drP)) (c := (sel [1, 1, 1, 1, 1, 1, 1, 0, 1, 4, 4, 1, 1] drP)) (S := fun a w => (0 ≤ k ∧ k < ts.length) ∧ ∃ (v13 : Value), (Dr w0 ts.length ts v12 v13 (HT ts ws lots lots.length) (HT ts ws lots lots.length ++ restTo (HT ts ws lots lots.length) (k : Int).toNat) w) ∧ Fr 79 [(0, vt), (12, v12), (13, v13), (61, vt), (62, .int .i64 ts.length), (63, .int .i64 k)] a) ?_ (T3.seq (s := (sel [1, 1, 1, 1, 1, 1, 1, 0, 1, 4, 4, 1, 1, 0] drP)) (c := (sel [1, 1, 1, 1, 1, 1, 1, 0, 1, 4, 4, 1, 1, 1] drP)) (S := fun a w => (0 ≤ k ∧ k < ts.length) ∧ ∃ (v13 : Value), (Dr w0 ts.length ts v12 v13 (HT ts ws lots lots.length) (HT ts ws lots lots.length ++ restTo (HT ts ws lots lots.length) ((k + 1) : Int).toNat) w) ∧ Fr 79 [(0, vt), (12, v12), (13, v13), (61, vt), (62, .int .i64 ts.length), (63, .int .i64 k)] a) (T3.noX (T3.mono (R' := fun a w => (0 ≤ k ∧ k < ts.length) ∧ ∃ (v13 : Value), (Dr w0 ts.length ts v12 v13 (HT ts ws lots lots.length) (HT ts ws lots lots.length ++ restTo (HT ts ws lots lots.length) (k : Int).toNat) w) ∧ Fr 79 [(0, vt), (12, v12), (13, v13), (61, vt), (62, .int .i64 ts.length), (63, .int .i64 k)] a) (S' := fun a w => (0 ≤ k ∧ k < ts.length) ∧ ∃ (v13 : Value), (Dr w0 ts.length ts v12 v13 (HT ts ws lots lots.length) (HT ts ws lots lots.length ++ restTo (HT ts ws lots lots.length) ((k + 1) : Int).toNat) w) ∧ Fr 79 [(0, vt), (12, v12), (13, v13), (61, vt), (62, .int .i64 ts.length), (63, .int .i64 k)] a) (drc w0 vt vw vl ts ws lots h d v12 k) (fun a w ⟨hk, v13, hI⟩ => ⟨v13, hk, hI⟩) (fun a w ⟨v13, hk, hI⟩ => ⟨hk, v13, hI⟩) (fun _ _ q => q) (fun _ _ q => q))) ?_)
  · refine T3.cond (o := .tmp 64) (x := .skip) (y := .exit 2) (fun a w => k < ts.length ∧ dr2I w0 vt vw vl ts ws lots h d v12 k a w) (fun a w => ¬ k < ts.length ∧ dr2I w0 vt vw vl ts ws lots h d v12 k a w) ?_ (T3.skip ?_) (T3.exit ?_)
    · rintro a w ⟨q, hF, hq, hI⟩
      have he := hF.eval 64 (by decide) (v := .bool q) (by simp)
      cases q
      · exact .inr ⟨he, (fun h => by have := hq.2 h; cases this), hI⟩
      · exact .inl ⟨he, hq.1 rfl, hI⟩
    · rintro a w ⟨hlt, hk, hI⟩
      exact ⟨⟨hk.1, hlt⟩, hI⟩
    · rintro a w ⟨hlt, hk, hI⟩
      obtain rfl : k = ts.length := by omega
      obtain ⟨v13, hW, hF⟩ := hI
      have e : (ts.length : Int).toNat = ts.length := by omega
      rw [e, restTo_all] at hW
      exact ⟨v13, hW, hF.sub (by simp)⟩
  · intro a w hx
    have hk := hx.1
    exact (((dr2n w0 vt vw vl ts ws lots h d v12 k).noX).post (fun a w q => ⟨n - 1, by omega, k + 1, by omega, q⟩)) a w hx
set_option maxRecDepth 100000 in
set_option maxHeartbeats 1000000 in
theorem dr23 (w0 : World) (vt vw vl : Value) (ts : List ByteArray) (ws lots : List Int) (h : DH w0 vt vw vl ts ws lots) (d : DG ts ws lots) (v12 : Value) : T3 Try.prog (fun a w => ∃ (v13 : Value), (Dr w0 ts.length ts v12 v13 (HT ts ws lots lots.length) (allL ts.length (HT ts ws lots lots.length)) w) ∧ Fr 79 [(13, v13)] a) (sel [1, 1, 1, 1, 1, 1, 1, 1, 0] drP) (fun a w => ∃ (v13 : Value), (Dr w0 ts.length ts v12 v13 (HT ts ws lots lots.length) (allL ts.length (HT ts ws lots lots.length)) w) ∧ Fr 79 [(8, v13), (9, .int .i64 0)] a) No 9 No := by
  refine T3.leaf ?_
  rintro Q JS JX JT K hS hK hX hE hT hR a w ⟨v13, hW, ⟨fr, rfl, q13, _⟩⟩
  rw [fr_drP, show fr 13 = _ from q13]
  clear q13
  conv => arg 2; whnf
  go_wp2_with fail
  refine Met.intro (hS _ _ ?_)
  exact ⟨v13, hW, Fr.of _ rfl ⟨rfl, rfl, trivial⟩⟩

end Go.Proofs.Ytkdimgghljklmaa
/-
  Lots: the program's Draw. Conditions: strings are no longer than Go's; at most 1000 teams, weights and lots.
-/
set_option linter.unusedVariables false
namespace Go.Proofs.Ytkdimgghljklmaa
open Go.RowKit Go.Bw
theorem de_top {ts : List ByteArray} {ws lots : List Int} {top : Int} (h : topE ts ws top ≠ 0) : drawE ts ws lots top = topE ts ws top := by unfold drawE; rw [if_pos h]
theorem de_form {ts : List ByteArray} {ws lots : List Int} {top : Int} (h : topE ts ws top = 0) (hl : (lots.length : Int) ≠ top) : drawE ts ws lots top = 3 := by unfold drawE; rw [if_neg (by simp [h]), if_pos hl]
theorem de_neg {ts : List ByteArray} {ws lots : List Int} {top : Int} (h : topE ts ws top = 0) (hl : (lots.length : Int) = top) (hn : lotAt lots = true) : drawE ts ws lots top = 1 := by unfold drawE; rw [if_neg (by simp [h]), if_neg (by simp [hl]), if_pos hn]
theorem de_ok {ts : List ByteArray} {ws lots : List Int} {top : Int} (h : topE ts ws top = 0) (hl : (lots.length : Int) = top) (hn : lotAt lots = false) : drawE ts ws lots top = 0 := by unfold drawE; rw [if_neg (by simp [h]), if_neg (by simp [hl]), if_neg (by simp [hn])]
theorem drawL_bad {ts : List ByteArray} {ws lots : List Int} {top : Int} (h : drawE ts ws lots top ≠ 0) : drawL ts ws lots top = [] := by unfold drawL; rw [if_neg h]
theorem dg_of {ts : List ByteArray} {ws lots : List Int} {top : Int} (h : topE ts ws top = 0) (hl : (lots.length : Int) = top) (hn : lotAt lots = false) : DG ts ws lots := by
  have hw : weightsE ts ws = 0 := by
    refine Decidable.byContradiction fun h0 => h0 ?_
    unfold topE at h
    rwa [if_pos h0] at h
  have ht : topB ts.length top = false := by
    cases hb : topB ts.length top
    · rfl
    · unfold topE at h
      rw [if_neg (by simp [hw]), hb] at h
      cases h
  refine ⟨w_good hw, fun j h0 h1 => ?_, ?_⟩
  · refine Decidable.byContradiction fun hj => ?_
    rw [lotAt_some lots j h0 h1 (by omega)] at hn
    cases hn
  · unfold topB at ht
    simp at ht
    omega
theorem drawL_ok {ts : List ByteArray} {ws lots : List Int} {top : Int} (h : drawE ts ws lots top = 0) : drawL ts ws lots top = namesL ts (allL ts.length (HT ts ws lots lots.length)) := by
  unfold drawL drawO HT
  rw [if_pos h]
  simp
set_option maxRecDepth 100000 in
set_option maxHeartbeats 1000000 in
theorem de0 (w0 : World) (vt vw vl : Value) (ts : List ByteArray) (ws lots : List Int) (top : Int) (h : DH w0 vt vw vl ts ws lots) : T3 Try.prog (fun a w => (IsW w0 w) ∧ Fr 79 [(0, vt), (1, vw), (2, vl), (3, .int .i64 top)] a) (sel [0] drP) (fun a w => (IsW w0 w) ∧ Fr 79 [(0, vt), (1, vw), (2, vl), (3, .int .i64 top)] a) No 9 (fun a w => ∃ v8 : Value, Fr 79 [(8, v8), (9, .int .i64 (drawE ts ws lots top))] a ∧ w.ownsRow w0.heap.size 9 1 v8 (drawL ts ws lots top).length (cellsOf encSt (drawL ts ws lots top)) ∧ Below w0.heap.size w0 w) := by
  refine T3.leaf ?_
  rintro Q JS JX JT K hS hK hX hE hT hR a w ⟨hW, ⟨fr, rfl, q0, q1, q2, q3, _⟩⟩
  obtain ⟨p1, c1, hv1⟩ := h.h.t.shape
  subst hv1
  obtain ⟨p2, c2, hv2⟩ := h.h.w.shape
  subst hv2
  obtain ⟨p3, c3, hv3⟩ := h.l.shape
  subst hv3
  rw [fr_drP, show fr 0 = _ from q0, show fr 1 = _ from q1, show fr 2 = _ from q2, show fr 3 = _ from q3]
  clear q0 q1 q2 q3
  conv => arg 2; whnf
  go_wp2_with fail
  refine Met.intro (hS _ _ ?_)
  exact ⟨hW, Fr.of _ rfl ⟨rfl, rfl, rfl, rfl, trivial⟩⟩

set_option maxRecDepth 100000 in
set_option maxHeartbeats 1000000 in
theorem de1 (w0 : World) (vt vw vl : Value) (ts : List ByteArray) (ws lots : List Int) (top : Int) (h : DH w0 vt vw vl ts ws lots) : T3 Try.prog (fun a w => (IsW w0 w) ∧ Fr 79 [(0, vt), (1, vw), (2, vl), (3, .int .i64 top)] a) (sel [1, 0, 0] drP) (fun a w => (IsW w0 w) ∧ Fr 79 [(0, vt), (1, vw), (2, vl), (3, .int .i64 top), (10, .int .i64 (topE ts ws top))] a) No 9 (fun a w => ∃ v8 : Value, Fr 79 [(8, v8), (9, .int .i64 (drawE ts ws lots top))] a ∧ w.ownsRow w0.heap.size 9 1 v8 (drawL ts ws lots top).length (cellsOf encSt (drawL ts ws lots top)) ∧ Below w0.heap.size w0 w) := by
  refine T3.leaf ?_
  rintro Q JS JX JT K hS hK hX hE hT hR a w ⟨hW, ⟨fr, rfl, q0, q1, q2, q3, _⟩⟩
  obtain rfl : w = w0 := hW
  have HP := Lib.hid (top_prog w vt vw ts ws top h.h)
  generalize topE ts ws top = e0 at *
  obtain ⟨p1, c1, hv1⟩ := h.h.t.shape
  subst hv1
  obtain ⟨p2, c2, hv2⟩ := h.h.w.shape
  subst hv2
  obtain ⟨p3, c3, hv3⟩ := h.l.shape
  subst hv3
  rw [fr_drP, show fr 0 = _ from q0, show fr 1 = _ from q1, show fr 2 = _ from q2, show fr 3 = _ from q3]
  clear q0 q1 q2 q3
  conv => arg 2; whnf
  go_wp2_with fail
  refine HP.out.mono ?_
  rintro e w1 ⟨rfl, rfl⟩
  go_wp2_with fail
  refine Met.intro (hS _ _ ?_)
  exact ⟨rfl, Fr.of _ rfl ⟨rfl, rfl, rfl, rfl, rfl, trivial⟩⟩

set_option maxRecDepth 100000 in
set_option maxHeartbeats 1000000 in
theorem de2 (w0 : World) (vt vw vl : Value) (ts : List ByteArray) (ws lots : List Int) (top : Int) (h : DH w0 vt vw vl ts ws lots) : T3 Try.prog (fun a w => (IsW w0 w) ∧ Fr 79 [(0, vt), (1, vw), (2, vl), (3, .int .i64 top), (10, .int .i64 (topE ts ws top))] a) (sel [1, 0, 1, 0] drP) (fun a w => ∃ q, Fr 79 ((24, .bool q) :: [(0, vt), (1, vw), (2, vl), (3, .int .i64 top), (10, .int .i64 (topE ts ws top))]) a ∧ ((q = (topE ts ws top != 0)) ∧ IsW w0 w)) No 9 (fun a w => ∃ v8 : Value, Fr 79 [(8, v8), (9, .int .i64 (drawE ts ws lots top))] a ∧ w.ownsRow w0.heap.size 9 1 v8 (drawL ts ws lots top).length (cellsOf encSt (drawL ts ws lots top)) ∧ Below w0.heap.size w0 w) := by
  refine T3.leaf ?_
  rintro Q JS JX JT K hS hK hX hE hT hR a w ⟨hW, ⟨fr, rfl, q0, q1, q2, q3, q10, _⟩⟩
  generalize topE ts ws top = e0 at *
  obtain ⟨p1, c1, hv1⟩ := h.h.t.shape
  subst hv1
  obtain ⟨p2, c2, hv2⟩ := h.h.w.shape
  subst hv2
  obtain ⟨p3, c3, hv3⟩ := h.l.shape
  subst hv3
  rw [fr_drP, show fr 0 = _ from q0, show fr 1 = _ from q1, show fr 2 = _ from q2, show fr 3 = _ from q3, show fr 10 = _ from q10]
  clear q0 q1 q2 q3 q10
  conv => arg 2; whnf
  go_wp2_with fail
  refine Met.intro (hS _ _ ?_)
  exact ⟨_, Fr.of _ rfl ⟨rfl, rfl, rfl, rfl, rfl, rfl, trivial⟩, rfl, hW⟩

set_option maxRecDepth 100000 in
set_option maxHeartbeats 1000000 in
theorem de3 (w0 : World) (vt vw vl : Value) (ts : List ByteArray) (ws lots : List Int) (top : Int) (h : DH w0 vt vw vl ts ws lots) : T3 Try.prog (fun a w => (IsW w0 w) ∧ Fr 79 [(0, vt), (1, vw), (2, vl), (3, .int .i64 top), (10, .int .i64 (topE ts ws top))] a) (sel [1, 0, 1, 1, 2, 0] drP) (fun a w => (IsW w0 w) ∧ Fr 79 [(8, .slice none 0 0), (9, .int .i64 (topE ts ws top))] a) No 9 (fun a w => ∃ v8 : Value, Fr 79 [(8, v8), (9, .int .i64 (drawE ts ws lots top))] a ∧ w.ownsRow w0.heap.size 9 1 v8 (drawL ts ws lots top).length (cellsOf encSt (drawL ts ws lots top)) ∧ Below w0.heap.size w0 w) := by
  refine T3.leaf ?_
  rintro Q JS JX JT K hS hK hX hE hT hR a w ⟨hW, ⟨fr, rfl, q0, q1, q2, q3, q10, _⟩⟩
  generalize topE ts ws top = e0 at *
  obtain ⟨p1, c1, hv1⟩ := h.h.t.shape
  subst hv1
  obtain ⟨p2, c2, hv2⟩ := h.h.w.shape
  subst hv2
  obtain ⟨p3, c3, hv3⟩ := h.l.shape
  subst hv3
  rw [fr_drP, show fr 0 = _ from q0, show fr 1 = _ from q1, show fr 2 = _ from q2, show fr 3 = _ from q3, show fr 10 = _ from q10]
  clear q0 q1 q2 q3 q10
  conv => arg 2; whnf
  go_wp2_with fail
  refine Met.intro (hS _ _ ?_)
  exact ⟨hW, Fr.of _ rfl ⟨rfl, rfl, trivial⟩⟩

set_option maxRecDepth 100000 in
set_option maxHeartbeats 1000000 in
theorem de4 (w0 : World) (vt vw vl : Value) (ts : List ByteArray) (ws lots : List Int) (top : Int) (h : DH w0 vt vw vl ts ws lots) : T3 Try.prog (fun a w => (IsW w0 w) ∧ Fr 79 [(0, vt), (1, vw), (2, vl), (3, .int .i64 top)] a) (sel [1, 1, 0, 0] drP) (fun a w => ∃ q, Fr 79 ((29, .bool q) :: [(0, vt), (1, vw), (2, vl), (3, .int .i64 top)]) a ∧ ((q = ((lots.length : Int) != top)) ∧ IsW w0 w)) No 9 (fun a w => ∃ v8 : Value, Fr 79 [(8, v8), (9, .int .i64 (drawE ts ws lots top))] a ∧ w.ownsRow w0.heap.size 9 1 v8 (drawL ts ws lots top).length (cellsOf encSt (drawL ts ws lots top)) ∧ Below w0.heap.size w0 w) := by
  refine T3.leaf ?_
  rintro Q JS JX JT K hS hK hX hE hT hR a w ⟨hW, ⟨fr, rfl, q0, q1, q2, q3, _⟩⟩
  obtain ⟨p1, c1, hv1⟩ := h.h.t.shape
  subst hv1
  obtain ⟨p2, c2, hv2⟩ := h.h.w.shape
  subst hv2
  obtain ⟨p3, c3, hv3⟩ := h.l.shape
  subst hv3
  generalize hq : ((lots.length : Int) != top) = q at *
  rw [fr_drP, show fr 0 = _ from q0, show fr 1 = _ from q1, show fr 2 = _ from q2, show fr 3 = _ from q3]
  clear q0 q1 q2 q3
  conv => arg 2; whnf
  go_wp2_with fail
  refine Met.intro (hS _ _ ?_)
  exact ⟨_, Fr.of _ rfl ⟨rfl, rfl, rfl, rfl, rfl, trivial⟩, rfl, hW⟩

set_option maxRecDepth 100000 in
set_option maxHeartbeats 1000000 in
theorem de5 (w0 : World) (vt vw vl : Value) (ts : List ByteArray) (ws lots : List Int) (top : Int) (h : DH w0 vt vw vl ts ws lots) : T3 Try.prog (fun a w => (IsW w0 w) ∧ Fr 79 [(0, vt), (1, vw), (2, vl), (3, .int .i64 top)] a) (sel [1, 1, 0, 1, 2, 0] drP) (fun a w => (IsW w0 w) ∧ Fr 79 [(8, .slice none 0 0), (9, .int .i64 3)] a) No 9 (fun a w => ∃ v8 : Value, Fr 79 [(8, v8), (9, .int .i64 (drawE ts ws lots top))] a ∧ w.ownsRow w0.heap.size 9 1 v8 (drawL ts ws lots top).length (cellsOf encSt (drawL ts ws lots top)) ∧ Below w0.heap.size w0 w) := by
  refine T3.leaf ?_
  rintro Q JS JX JT K hS hK hX hE hT hR a w ⟨hW, ⟨fr, rfl, q0, q1, q2, q3, _⟩⟩
  obtain ⟨p1, c1, hv1⟩ := h.h.t.shape
  subst hv1
  obtain ⟨p2, c2, hv2⟩ := h.h.w.shape
  subst hv2
  obtain ⟨p3, c3, hv3⟩ := h.l.shape
  subst hv3
  rw [fr_drP, show fr 0 = _ from q0, show fr 1 = _ from q1, show fr 2 = _ from q2, show fr 3 = _ from q3]
  clear q0 q1 q2 q3
  conv => arg 2; whnf
  go_wp2_with fail
  refine Met.intro (hS _ _ ?_)
  exact ⟨hW, Fr.of _ rfl ⟨rfl, rfl, trivial⟩⟩

set_option maxRecDepth 100000 in
set_option maxHeartbeats 1000000 in
theorem de6 (w0 : World) (vt vw vl : Value) (ts : List ByteArray) (ws lots : List Int) (top : Int) (h : DH w0 vt vw vl ts ws lots) : T3 Try.prog (fun a w => (IsW w0 w) ∧ Fr 79 [(0, vt), (1, vw), (2, vl), (3, .int .i64 top)] a) (sel [1, 1, 1, 0, 0] drP) (fun a w => ∃ q, Fr 79 ((31, .bool q) :: [(0, vt), (1, vw), (2, vl), (3, .int .i64 top)]) a ∧ ((q = lotAt lots) ∧ IsW w0 w)) No 9 (fun a w => ∃ v8 : Value, Fr 79 [(8, v8), (9, .int .i64 (drawE ts ws lots top))] a ∧ w.ownsRow w0.heap.size 9 1 v8 (drawL ts ws lots top).length (cellsOf encSt (drawL ts ws lots top)) ∧ Below w0.heap.size w0 w) := by
  refine T3.leaf ?_
  rintro Q JS JX JT K hS hK hX hE hT hR a w ⟨hW, ⟨fr, rfl, q0, q1, q2, q3, _⟩⟩
  obtain rfl : w = w0 := hW
  have HP := Lib.hid (any_neg vl lots.length lots 0 w h.l h.ln)
  generalize lotAt lots = q at *
  obtain ⟨p1, c1, hv1⟩ := h.h.t.shape
  subst hv1
  obtain ⟨p2, c2, hv2⟩ := h.h.w.shape
  subst hv2
  obtain ⟨p3, c3, hv3⟩ := h.l.shape
  subst hv3
  rw [fr_drP, show fr 0 = _ from q0, show fr 1 = _ from q1, show fr 2 = _ from q2, show fr 3 = _ from q3]
  clear q0 q1 q2 q3
  conv => arg 2; whnf
  go_wp2_with fail
  refine HP.out.mono ?_
  rintro e w1 ⟨rfl, rfl⟩
  go_wp2_with fail
  refine Met.intro (hS _ _ ?_)
  exact ⟨_, Fr.of _ rfl ⟨rfl, rfl, rfl, rfl, rfl, trivial⟩, rfl, rfl⟩

set_option maxRecDepth 100000 in
set_option maxHeartbeats 1000000 in
theorem de7 (w0 : World) (vt vw vl : Value) (ts : List ByteArray) (ws lots : List Int) (top : Int) (h : DH w0 vt vw vl ts ws lots) : T3 Try.prog (fun a w => (IsW w0 w) ∧ Fr 79 [(0, vt), (1, vw), (2, vl), (3, .int .i64 top)] a) (sel [1, 1, 1, 0, 1, 2, 0] drP) (fun a w => (IsW w0 w) ∧ Fr 79 [(8, .slice none 0 0), (9, .int .i64 1)] a) No 9 (fun a w => ∃ v8 : Value, Fr 79 [(8, v8), (9, .int .i64 (drawE ts ws lots top))] a ∧ w.ownsRow w0.heap.size 9 1 v8 (drawL ts ws lots top).length (cellsOf encSt (drawL ts ws lots top)) ∧ Below w0.heap.size w0 w) := by
  refine T3.leaf ?_
  rintro Q JS JX JT K hS hK hX hE hT hR a w ⟨hW, ⟨fr, rfl, q0, q1, q2, q3, _⟩⟩
  obtain ⟨p1, c1, hv1⟩ := h.h.t.shape
  subst hv1
  obtain ⟨p2, c2, hv2⟩ := h.h.w.shape
  subst hv2
  obtain ⟨p3, c3, hv3⟩ := h.l.shape
  subst hv3
  rw [fr_drP, show fr 0 = _ from q0, show fr 1 = _ from q1, show fr 2 = _ from q2, show fr 3 = _ from q3]
  clear q0 q1 q2 q3
  conv => arg 2; whnf
  go_wp2_with fail
  refine Met.intro (hS _ _ ?_)
  exact ⟨hW, Fr.of _ rfl ⟨rfl, rfl, trivial⟩⟩

set_option maxRecDepth 100000 in
set_option maxHeartbeats 1000000 in
theorem de8 (w0 : World) (vt vw vl : Value) (ts : List ByteArray) (ws lots : List Int) (top : Int) (h : DH w0 vt vw vl ts ws lots) (d : DG ts ws lots) : T3 Try.prog (fun a w => (IsW w0 w) ∧ Fr 79 [(0, vt), (1, vw), (2, vl), (3, .int .i64 top)] a) (sel [1, 1, 1, 1, 0] drP) (fun a w => ∃ (v12 : Value), (Dr w0 ts.length ts v12 (.slice none 0 0) [] [] w) ∧ Fr 79 [(0, vt), (1, vw), (2, vl), (11, .int .i64 ws.sum), (12, v12)] a) No 9 (fun a w => ∃ v8 : Value, Fr 79 [(8, v8), (9, .int .i64 (drawE ts ws lots top))] a ∧ w.ownsRow w0.heap.size 9 1 v8 (drawL ts ws lots top).length (cellsOf encSt (drawL ts ws lots top)) ∧ Below w0.heap.size w0 w) := by
  refine T3.leafN ?_
  rintro JS hS a w ⟨hW, ⟨fr, rfl, q0, q1, q2, q3, _⟩⟩
  obtain rfl : w = w0 := hW
  have htn := h.h.tn
  have hmk := mk_bools ts.length htn
  have HSM := Lib.hid (fun w' (b : Below w.heap.size w w') => sum_prog vw ws.length ws 0 w' (h.h.w.below b) d.g.lo (by have := d.g.len; have := d.g.n14; omega))
  obtain ⟨p1, c1, hv1⟩ := h.h.t.shape
  subst hv1
  obtain ⟨p2, c2, hv2⟩ := h.h.w.shape
  subst hv2
  obtain ⟨p3, c3, hv3⟩ := h.l.shape
  subst hv3
  generalize ws.sum = sm at *
  rw [fr_drP, show fr 0 = _ from q0, show fr 1 = _ from q1, show fr 2 = _ from q2, show fr 3 = _ from q3]
  clear q0 q1 q2 q3
  conv => arg 2; whnf
  refine wp_region_sch (none) (.calm 0 (.calm 2 (.calm 3 (.two 1 4 (.calm 5 (.one 4 (.calm 6 .done))) (.one 1 (.calm 5 (.calm 6 .done))))))) (by kernel_rfl) (by kernel_rfl) (by intro c a d v w h; cases d <;> exact h) ?_
  refine sch_hide (fun W hH hC hN hT_ hE => ?_)
  refine hH.out _ _ _ _ _ rfl (fun K hK => ?_); go_simp; refine hK _ ?_; clear hK K
  refine hH.out _ _ _ _ _ rfl (fun K hK => ?_); go_simp; refine hK _ ?_; clear hK K
  refine hH.out _ _ _ _ _ rfl (fun K hK => ?_); go_simp; refine hK _ ?_; clear hK K
  refine hT_.out _ _ _ _ _ _ ?_ ?_
  · refine hC.out _ _ _ _ _ rfl (by first | rfl | go_simp) (fun K hK => ?_)
    simp only [bare]
    go_wp2_with fail
    refine (HSM.out _ (below_drewN (Below.refl _ _) 1)).mono ?_
    rintro e w2 ⟨rfl, rfl⟩
    go_wp2_with fail
    refine hK.out _ _ (grown_refl _ _) ?_
    clear hK K
    refine hH.out _ _ _ _ _ rfl (fun K hK => ?_); go_simp; refine hK _ ?_; clear hK K
    refine hC.out _ _ _ _ _ rfl (by first | rfl | go_simp) (fun K hK => ?_)
    simp only [bare]
    go_wp2_with fail
    refine hK.out _ _ (World.grownBy_alloc _ _ _) ?_
    clear hK K
    refine hH.out _ _ _ _ _ rfl (fun K hK => ?_); go_simp; refine hK _ ?_; clear hK K
    refine hE.out _ _ ?_
    clear hH hC hN hT_ hE W
    show JS _ _
    refine hS _ _ ?_
    exact ⟨_, ⟨(below_drewN (Below.refl _ _) 1).alloc (Nat.le_refl _) _, (by rw [takenC_nil]; exact owns_made w.drew w.heap.size _ _ _ htn (Nat.le_refl _)), World.ownsRow_nil _ _ _ _⟩, Fr.of _ rfl ⟨rfl, rfl, rfl, rfl, rfl, trivial⟩⟩
  · refine hC.out _ _ _ _ _ rfl (by first | rfl | go_simp) (fun K hK => ?_)
    simp only [bare]
    go_wp2_with fail
    refine hK.out _ _ (World.grownBy_alloc _ _ _) ?_
    clear hK K
    refine hC.out _ _ _ _ _ rfl (by first | rfl | go_simp) (fun K hK => ?_)
    simp only [bare]
    go_wp2_with fail
    refine (HSM.out _ ((below_drewN (Below.refl _ _) 1).alloc (Nat.le_refl _) _)).mono ?_
    rintro e w2 ⟨rfl, rfl⟩
    go_wp2_with fail
    refine hK.out _ _ (World.grownBy_alloc _ _ _) ?_
    clear hK K
    refine hH.out _ _ _ _ _ rfl (fun K hK => ?_); go_simp; refine hK _ ?_; clear hK K
    refine hH.out _ _ _ _ _ rfl (fun K hK => ?_); go_simp; refine hK _ ?_; clear hK K
    refine hE.out _ _ ?_
    clear hH hC hN hT_ hE W
    show JS _ _
    refine hS _ _ ?_
    exact ⟨_, ⟨(below_drewN (Below.refl _ _) 1).alloc (Nat.le_refl _) _, (by rw [takenC_nil]; exact owns_made w.drew w.heap.size _ _ _ htn (Nat.le_refl _)), World.ownsRow_nil _ _ _ _⟩, Fr.of _ rfl ⟨rfl, rfl, rfl, rfl, rfl, trivial⟩⟩

set_option maxRecDepth 100000 in
set_option maxHeartbeats 1000000 in
theorem de9 (w0 : World) (vt vw vl : Value) (ts : List ByteArray) (ws lots : List Int) (top : Int) (h : DH w0 vt vw vl ts ws lots) (d : DG ts ws lots) (v12 : Value) : T3 Try.prog (fun a w => (Dr w0 ts.length ts v12 (.slice none 0 0) [] [] w) ∧ Fr 79 [(0, vt), (1, vw), (2, vl), (11, .int .i64 ws.sum), (12, v12)] a) (sel [1, 1, 1, 1, 1, 0] drP) (fun a w => (Dr w0 ts.length ts v12 (.slice none 0 0) [] [] w) ∧ Fr 79 [(0, vt), (1, vw), (2, vl), (11, .int .i64 ws.sum), (12, v12), (13, .slice none 0 0)] a) No 9 (fun a w => ∃ v8 : Value, Fr 79 [(8, v8), (9, .int .i64 (drawE ts ws lots top))] a ∧ w.ownsRow w0.heap.size 9 1 v8 (drawL ts ws lots top).length (cellsOf encSt (drawL ts ws lots top)) ∧ Below w0.heap.size w0 w) := by
  refine T3.leaf ?_
  rintro Q JS JX JT K hS hK hX hE hT hR a w ⟨hW, ⟨fr, rfl, q0, q1, q2, q11, q12, _⟩⟩
  rw [fr_drP, show fr 0 = _ from q0, show fr 1 = _ from q1, show fr 2 = _ from q2, show fr 11 = _ from q11, show fr 12 = _ from q12]
  clear q0 q1 q2 q11 q12
  conv => arg 2; whnf
  go_wp2_with fail
  refine Met.intro (hS _ _ ?_)
  exact ⟨hW, Fr.of _ rfl ⟨rfl, rfl, rfl, rfl, rfl, rfl, trivial⟩⟩

set_option maxRecDepth 100000 in
set_option maxHeartbeats 1000000 in
theorem de_all (w0 : World) (vt vw vl : Value) (ts : List ByteArray) (ws lots : List Int) (top : Int) (h : DH w0 vt vw vl ts ws lots) : T3 Try.prog (fun a w => (IsW w0 w) ∧ Fr 79 [(0, vt), (1, vw), (2, vl), (3, .int .i64 top)] a) drP No No 9 (fun a w => ∃ v8 : Value, Fr 79 [(8, v8), (9, .int .i64 (drawE ts ws lots top))] a ∧ w.ownsRow w0.heap.size 9 1 v8 (drawL ts ws lots top).length (cellsOf encSt (drawL ts ws lots top)) ∧ Below w0.heap.size w0 w) := by
  refine T3.seq (s := (sel [0] drP)) (c := (sel [1] drP)) (de0 w0 vt vw vl ts ws lots top h) ?_
  refine T3.seq (s := (sel [1, 0] drP)) (c := (sel [1, 1] drP)) (S := fun a w => (topE ts ws top = 0) ∧ (IsW w0 w) ∧ Fr 79 [(0, vt), (1, vw), (2, vl), (3, .int .i64 top)] a) ?_ (T3.pure fun hE => ?_)
  · refine T3.seq (s := (sel [1, 0, 0] drP)) (c := (sel [1, 0, 1] drP)) (de1 w0 vt vw vl ts ws lots top h) ?_
    refine T3.test (s := (sel [1, 0, 1, 0] drP)) (x := (sel [1, 0, 1, 1, 2] drP)) (y := .skip) (C := fun q => (q = (topE ts ws top != 0))) (W := fun w => IsW w0 w) (by decide) (de2 w0 vt vw vl ts ws lots top h) ?_ (T3.skip ?_)
    · refine T3.seq (s := (sel [1, 0, 1, 1, 2, 0] drP)) (c := .ret) (t3_seqx (p := topE ts ws top ≠ 0) (de3 w0 vt vw vl ts ws lots top h) ?_) (T3.ret ?_)
      · rintro a w ⟨hF, hq, hW⟩
        exact ⟨by have := hq.symm; simpa using this, hW, hF.tail⟩
      · rintro a w ⟨hp, hW, hF⟩
        have hd := de_top (lots := lots) hp
        refine ⟨_, by rw [hd]; exact hF, by rw [drawL_bad (by rw [hd]; exact hp)]; exact World.ownsRow_nil _ _ _ _, ?_⟩
        obtain rfl : w = w0 := hW
        exact Below.refl _ _
    · rintro a w ⟨hq, hW, hF⟩
      exact ⟨by have := hq.symm; simpa using this, hW, hF.sub (by simp)⟩
  refine T3.seq (s := (sel [1, 1, 0] drP)) (c := (sel [1, 1, 1] drP)) (S := fun a w => ((lots.length : Int) = top) ∧ (IsW w0 w) ∧ Fr 79 [(0, vt), (1, vw), (2, vl), (3, .int .i64 top)] a) ?_ (T3.pure fun hL => ?_)
  · refine T3.test (s := (sel [1, 1, 0, 0] drP)) (x := (sel [1, 1, 0, 1, 2] drP)) (y := .skip) (C := fun q => (q = ((lots.length : Int) != top))) (W := fun w => IsW w0 w) (by decide) (de4 w0 vt vw vl ts ws lots top h) ?_ (T3.skip ?_)
    · refine T3.seq (s := (sel [1, 1, 0, 1, 2, 0] drP)) (c := .ret) (t3_seqx (p := (lots.length : Int) ≠ top) (de5 w0 vt vw vl ts ws lots top h) ?_) (T3.ret ?_)
      · rintro a w ⟨hF, hq, hW⟩
        exact ⟨by have := hq.symm; simpa using this, hW, hF.tail⟩
      · rintro a w ⟨hp, hW, hF⟩
        have hd := de_form hE hp
        refine ⟨_, by rw [hd]; exact hF, by rw [drawL_bad (by rw [hd]; decide)]; exact World.ownsRow_nil _ _ _ _, ?_⟩
        obtain rfl : w = w0 := hW
        exact Below.refl _ _
    · rintro a w ⟨hq, hW, hF⟩
      exact ⟨by have := hq.symm; simpa using this, hW, hF⟩
  refine T3.seq (s := (sel [1, 1, 1, 0] drP)) (c := (sel [1, 1, 1, 1] drP)) (S := fun a w => (lotAt lots = false) ∧ (IsW w0 w) ∧ Fr 79 [(0, vt), (1, vw), (2, vl), (3, .int .i64 top)] a) ?_ (T3.pure fun hN => ?_)
  · refine T3.test (s := (sel [1, 1, 1, 0, 0] drP)) (x := (sel [1, 1, 1, 0, 1, 2] drP)) (y := .skip) (C := fun q => (q = lotAt lots)) (W := fun w => IsW w0 w) (by decide) (de6 w0 vt vw vl ts ws lots top h) ?_ (T3.skip ?_)
    · refine T3.seq (s := (sel [1, 1, 1, 0, 1, 2, 0] drP)) (c := .ret) (t3_seqx (p := lotAt lots = true) (de7 w0 vt vw vl ts ws lots top h) ?_) (T3.ret ?_)
      · rintro a w ⟨hF, hq, hW⟩
        exact ⟨hq.symm, hW, hF.tail⟩
      · rintro a w ⟨hp, hW, hF⟩
        have hd := de_neg hE hL hp
        refine ⟨_, by rw [hd]; exact hF, by rw [drawL_bad (by rw [hd]; decide)]; exact World.ownsRow_nil _ _ _ _, ?_⟩
        obtain rfl : w = w0 := hW
        exact Below.refl _ _
    · rintro a w ⟨hq, hW, hF⟩
      exact ⟨hq.symm, hW, hF⟩
  have d := dg_of hE hL hN
  have hd := de_ok hE hL hN
  refine T3.seq (s := (sel [1, 1, 1, 1, 0] drP)) (c := (sel [1, 1, 1, 1, 1] drP)) (de8 w0 vt vw vl ts ws lots top h d) ?_
  refine T3.ex fun v12 => ?_
  refine T3.seq (s := (sel [1, 1, 1, 1, 1, 0] drP)) (c := (sel [1, 1, 1, 1, 1, 1] drP)) (de9 w0 vt vw vl ts ws lots top h d v12) ?_
  refine T3.seq (s := (sel [1, 1, 1, 1, 1, 1, 0] drP)) (c := (sel [1, 1, 1, 1, 1, 1, 1] drP)) (T3.noT (T3.seq (s := (sel [1, 1, 1, 1, 1, 1, 0, 0] drP)) (c := (sel [1, 1, 1, 1, 1, 1, 0, 1] drP)) (dr10 w0 vt vw vl ts ws lots h d v12) (dr1loop w0 vt vw vl ts ws lots h d v12))) ?_
  refine T3.seq (s := (sel [1, 1, 1, 1, 1, 1, 1, 0] drP)) (c := (sel [1, 1, 1, 1, 1, 1, 1, 1] drP)) (T3.noT (T3.seq (s := (sel [1, 1, 1, 1, 1, 1, 1, 0, 0] drP)) (c := (sel [1, 1, 1, 1, 1, 1, 1, 0, 1] drP)) (dr17 w0 vt vw vl ts ws lots h d v12) (dr2loop w0 vt vw vl ts ws lots h d v12))) ?_
  refine T3.seq (s := (sel [1, 1, 1, 1, 1, 1, 1, 1, 0] drP)) (c := .ret) (T3.noT (dr23 w0 vt vw vl ts ws lots h d v12)) (T3.ret ?_)
  rintro a w ⟨v13, hW, hF⟩
  refine ⟨v13, by rw [hd]; exact hF, ?_, hW.bel⟩
  rw [drawL_ok hd, namesL_length]
  exact hW.out

set_option maxRecDepth 100000 in
set_option maxHeartbeats 1000000 in
theorem draw_prog (w0 : World) (vt vw vl : Value) (ts : List ByteArray) (ws lots : List Int) (top : Int) (h : DH w0 vt vw vl ts ws lots) : Calls Try.prog 11 #[vt, vw, vl, .int .i64 top] w0 fun e w' => ∃ v8 : Value, e = .returned (.tuple #[v8, .int .i64 (drawE ts ws lots top)]) ∧ w'.ownsRow w0.heap.size 9 1 v8 (drawL ts ws lots top).length (cellsOf encSt (drawL ts ws lots top)) ∧ Below w0.heap.size w0 w' := by
  have hall := de_all w0 vt vw vl ts ws lots top h
  go_enter Try.func11, Try.ntmps11
  refine T3.done (s := drP) hall ⟨rfl, Fr.of _ rfl ⟨rfl, rfl, rfl, rfl, trivial⟩⟩ ?_
  rintro a w ⟨v8, ⟨fr, rfl, q8, q9, _⟩, ho, hb⟩
  obtain ⟨p9, c9, hv9⟩ := (Row.of_owns ho).shape
  rw [hv9] at ho
  rw [fr_drP, show fr 8 = _ from q8, hv9, show fr 9 = _ from q9]
  go_ret2
  exact ⟨_, rfl, ho, hb⟩
end Go.Proofs.Ytkdimgghljklmaa
