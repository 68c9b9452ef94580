/-
  Contracts and lemmas towards the statement, of several parts; each part says ahead of it what it holds and under which conditions.
-/
import Derived.Test.YtkdimgghljklmaaMg2
import Derived.Lib.MinMax
import Derived.Laws.MakeOwn
import Derived.Laws.OwnMore
/-
  Lots: what is wrong with teams and weights, the program's and the reference's look. Conditions: strings are no longer than Go's; at most 1000 teams and weights.
-/
set_option linter.unusedVariables false
namespace Go.Proofs.Ytkdimgghljklmaa
open Go.RowKit Go.Bw
/-- The world is w0 (a plain name: the walk does not rewrite by it). -/
def IsW (w0 w : World) : Prop := w = w0
/-- The data of a call. -/
structure WH (w0 : World) (vt vw : Value) (ts : List ByteArray) (ws : List Int) : Prop where
  t : Row w0 0 1 vt ts.length (cellsOf encSt ts)
  w : Row w0 0 1 vw ws.length (ws.map (.int .i64))
  z : ∀ s ∈ ts, s.size ≤ 9223372036854775807
  tn : ts.length ≤ 1000
  wn : ws.length ≤ 1000
theorem WH.below {w0 w' : World} {vt vw : Value} {ts : List ByteArray} {ws : List Int} (h : WH w0 vt vw ts ws) (b : Below w0.heap.size w0 w') : WH w' vt vw ts ws := ⟨h.t.below b, h.w.below b, h.z, h.tn, h.wn⟩
/-- What holds ahead of the look at the weights. -/
def WOk1 (ts : List ByteArray) : Prop := ts.length ≠ 0 ∧ ¬ 14 < ts.length
structure WOk2 (ts : List ByteArray) (ws : List Int) : Prop where
  ne : NoErr (teamAt ts) ts.length
  len : ws.length = ts.length
theorem we_none {ts : List ByteArray} {ws : List Int} (h : ts.length = 0) : weightsE ts ws = 8 := by unfold weightsE; rw [if_pos h]
theorem we_large {ts : List ByteArray} {ws : List Int} (h0 : ts.length ≠ 0) (h : 14 < ts.length) : weightsE ts ws = 2 := by unfold weightsE; rw [if_neg h0, if_pos h]
theorem we_team {ts : List ByteArray} {ws : List Int} (h : WOk1 ts) {k : Int} (hk0 : 0 ≤ k) (hk1 : k < ts.length) (hn : NoErr (teamAt ts) k) (he : teamAt ts k ≠ 0) : weightsE ts ws = teamAt ts k := by
  have := firstErr_hit hn hk0 hk1 he
  unfold weightsE
  rw [if_neg h.1, if_neg h.2, this, if_pos he]
theorem we_form {ts : List ByteArray} {ws : List Int} (h : WOk1 ts) (hn : NoErr (teamAt ts) ts.length) (hl : ws.length ≠ ts.length) : weightsE ts ws = 3 := by
  unfold weightsE
  rw [if_neg h.1, if_neg h.2, firstErr_none hn, if_neg (by decide), if_pos hl]
theorem we_last {ts : List ByteArray} {ws : List Int} (h : WOk1 ts) (hn : NoErr (teamAt ts) ts.length) (hl : ws.length = ts.length) : weightsE ts ws = firstErr (wgtAt ws) ws.length := by
  unfold weightsE
  rw [if_neg h.1, if_neg h.2, firstErr_none hn, if_neg (by decide), if_neg (by simp [hl])]
theorem t3_seqx {P : Program} {R R' S X T : Rel} {s : Code} {id : Nat} {p : Prop} (h : T3 P R s S X id T) (hR : ∀ a w, R' a w → p ∧ R a w) : T3 P R' s (fun a w => p ∧ S a w) X id T := by
  intro a w q
  obtain ⟨hp, hr⟩ := hR a w q
  refine wp_mono (h a w hr) ?_
  intro e a w q
  cases e <;> first | exact ⟨hp, q⟩ | exact q
noncomputable def cwP : Code := (Try.f22.body).getD .skip
set_option maxRecDepth 100000 in
theorem fr_cwP (f : Nat → Value) : frame 47 f = ⟨#[f 0, f 1, f 2, f 3, f 4, f 5, f 6, f 7, f 8, f 9, f 10, f 11, f 12, f 13, f 14, f 15, f 16, f 17, f 18, f 19, f 20, f 21, f 22, f 23, f 24, f 25, f 26, f 27, f 28, f 29, f 30, f 31, f 32, f 33, f 34, f 35, f 36, f 37, f 38, f 39, f 40, f 41, f 42, f 43, f 44, f 45, f 46], []⟩ := by rfl
set_option maxRecDepth 100000 in
set_option maxHeartbeats 1000000 in
theorem cp0 (w0 : World) (vt vw : Value) (ts : List ByteArray) (ws : List Int) (h : WH w0 vt vw ts ws) : T3 Try.prog (fun a w => (IsW w0 w) ∧ Fr 47 [(0, vt), (1, vw)] a) (sel [0] cwP) (fun a w => (IsW w0 w) ∧ Fr 47 [(0, vt), (1, vw)] a) No 9 (fun a w => IsW w0 w ∧ Fr 47 [(4, .int .i64 (weightsE ts ws))] a) := by
  refine T3.leaf ?_
  rintro Q JS JX JT K hS hK hX hE hT hR a w ⟨hW, ⟨fr, rfl, q0, q1, _⟩⟩
  obtain ⟨p1, c1, hv1⟩ := h.t.shape
  subst hv1
  obtain ⟨p2, c2, hv2⟩ := h.w.shape
  subst hv2
  rw [fr_cwP, show fr 0 = _ from q0, show fr 1 = _ from q1]
  clear q0 q1
  conv => arg 2; whnf
  go_wp2_with fail
  refine Met.intro (hS _ _ ?_)
  exact ⟨hW, Fr.of _ rfl ⟨rfl, rfl, trivial⟩⟩

set_option maxRecDepth 100000 in
set_option maxHeartbeats 1000000 in
theorem cp1 (w0 : World) (vt vw : Value) (ts : List ByteArray) (ws : List Int) (h : WH w0 vt vw ts ws) : T3 Try.prog (fun a w => (IsW w0 w) ∧ Fr 47 [(0, vt), (1, vw)] a) (sel [1, 0, 4, 0] cwP) (fun a w => ∃ q, Fr 47 ((9, .bool q) :: [(0, vt), (1, vw)]) a ∧ ((q = decide ((ts.length : Int) = 0)) ∧ IsW w0 w)) No 9 (fun a w => IsW w0 w ∧ Fr 47 [(4, .int .i64 (weightsE ts ws))] a) := by
  refine T3.leaf ?_
  rintro Q JS JX JT K hS hK hX hE hT hR a w ⟨hW, ⟨fr, rfl, q0, q1, _⟩⟩
  obtain ⟨p1, c1, hv1⟩ := h.t.shape
  subst hv1
  obtain ⟨p2, c2, hv2⟩ := h.w.shape
  subst hv2
  rw [fr_cwP, show fr 0 = _ from q0, show fr 1 = _ from q1]
  clear q0 q1
  conv => arg 2; whnf
  go_wp2_with fail
  refine Met.intro (hS _ _ ?_)
  exact ⟨_, Fr.of _ rfl ⟨rfl, rfl, rfl, trivial⟩, rfl, hW⟩

set_option maxRecDepth 100000 in
set_option maxHeartbeats 1000000 in
theorem cp3 (w0 : World) (vt vw : Value) (ts : List ByteArray) (ws : List Int) (h : WH w0 vt vw ts ws) : T3 Try.prog (fun a w => (IsW w0 w) ∧ Fr 47 [(0, vt), (1, vw)] a) (sel [1, 0, 4, 1, 3, 0] cwP) (fun a w => ∃ q, Fr 47 ((13, .bool q) :: [(0, vt), (1, vw)]) a ∧ ((q = decide ((14 : Int) < ts.length)) ∧ IsW w0 w)) No 9 (fun a w => IsW w0 w ∧ Fr 47 [(4, .int .i64 (weightsE ts ws))] a) := by
  refine T3.leaf ?_
  rintro Q JS JX JT K hS hK hX hE hT hR a w ⟨hW, ⟨fr, rfl, q0, q1, _⟩⟩
  obtain ⟨p1, c1, hv1⟩ := h.t.shape
  subst hv1
  obtain ⟨p2, c2, hv2⟩ := h.w.shape
  subst hv2
  rw [fr_cwP, show fr 0 = _ from q0, show fr 1 = _ from q1]
  clear q0 q1
  conv => arg 2; whnf
  go_wp2_with fail
  refine Met.intro (hS _ _ ?_)
  exact ⟨_, Fr.of _ rfl ⟨rfl, rfl, rfl, trivial⟩, rfl, hW⟩

set_option maxRecDepth 100000 in
set_option maxHeartbeats 1000000 in
theorem cp2 (w0 : World) (vt vw : Value) (ts : List ByteArray) (ws : List Int) (h : WH w0 vt vw ts ws) : T3 Try.prog (fun a w => (IsW w0 w) ∧ Fr 47 [(0, vt), (1, vw)] a) (sel [1, 0, 4, 1, 2, 0] cwP) (fun a w => (IsW w0 w) ∧ Fr 47 [(4, .int .i64 8)] a) No 9 (fun a w => IsW w0 w ∧ Fr 47 [(4, .int .i64 (weightsE ts ws))] a) := by
  refine T3.leaf ?_
  rintro Q JS JX JT K hS hK hX hE hT hR a w ⟨hW, ⟨fr, rfl, q0, q1, _⟩⟩
  rw [fr_cwP, show fr 0 = _ from q0, show fr 1 = _ from q1]
  clear q0 q1
  conv => arg 2; whnf
  go_wp2_with fail
  refine Met.intro (hS _ _ ?_)
  exact ⟨hW, Fr.of _ rfl ⟨rfl, trivial⟩⟩

set_option maxRecDepth 100000 in
set_option maxHeartbeats 1000000 in
theorem cp4 (w0 : World) (vt vw : Value) (ts : List ByteArray) (ws : List Int) (h : WH w0 vt vw ts ws) : T3 Try.prog (fun a w => (IsW w0 w) ∧ Fr 47 [(0, vt), (1, vw)] a) (sel [1, 0, 4, 1, 3, 1, 2, 0] cwP) (fun a w => (IsW w0 w) ∧ Fr 47 [(4, .int .i64 2)] a) No 9 (fun a w => IsW w0 w ∧ Fr 47 [(4, .int .i64 (weightsE ts ws))] a) := by
  refine T3.leaf ?_
  rintro Q JS JX JT K hS hK hX hE hT hR a w ⟨hW, ⟨fr, rfl, q0, q1, _⟩⟩
  rw [fr_cwP, show fr 0 = _ from q0, show fr 1 = _ from q1]
  clear q0 q1
  conv => arg 2; whnf
  go_wp2_with fail
  refine Met.intro (hS _ _ ?_)
  exact ⟨hW, Fr.of _ rfl ⟨rfl, trivial⟩⟩

set_option maxRecDepth 100000 in
set_option maxHeartbeats 1000000 in
theorem cp5 (w0 : World) (vt vw : Value) (ts : List ByteArray) (ws : List Int) (h : WH w0 vt vw ts ws) : T3 Try.prog (fun a w => (IsW w0 w) ∧ Fr 47 [(0, vt), (1, vw)] a) (sel [1, 1, 0, 0] cwP) (fun a w => (0 ≤ (0 : Int) ∧ (0 : Int) ≤ ts.length) ∧ (NoErr (teamAt ts) 0) ∧ (IsW w0 w) ∧ Fr 47 [(0, vt), (1, vw), (17, vt), (18, .int .i64 ts.length), (19, .int .i64 0)] a) No 9 (fun a w => IsW w0 w ∧ Fr 47 [(4, .int .i64 (weightsE ts ws))] a) := by
  refine T3.leaf ?_
  rintro Q JS JX JT K hS hK hX hE hT hR a w ⟨hW, ⟨fr, rfl, q0, q1, _⟩⟩
  obtain ⟨p1, c1, hv1⟩ := h.t.shape
  subst hv1
  obtain ⟨p2, c2, hv2⟩ := h.w.shape
  subst hv2
  rw [fr_cwP, show fr 0 = _ from q0, show fr 1 = _ from q1]
  clear q0 q1
  conv => arg 2; whnf
  go_wp2_with fail
  refine Met.intro (hS _ _ ?_)
  exact ⟨⟨by omega, by omega⟩, NoErr.zero _, hW, Fr.of _ rfl ⟨rfl, rfl, rfl, rfl, rfl, trivial⟩⟩

set_option maxRecDepth 100000 in
set_option maxHeartbeats 1000000 in
theorem cp7 (w0 : World) (vt vw : Value) (ts : List ByteArray) (ws : List Int) (h : WH w0 vt vw ts ws) (k : Int) : T3 Try.prog (fun a w => ((0 ≤ k ∧ k < ts.length) ∧ (NoErr (teamAt ts) k)) ∧ (IsW w0 w) ∧ Fr 47 [(0, vt), (1, vw), (17, vt), (18, .int .i64 ts.length), (19, .int .i64 k)] a) (sel [1, 1, 0, 1, 4, 4, 1, 1, 0, 4, 0] cwP) (fun a w => ((0 ≤ k ∧ k < ts.length) ∧ (NoErr (teamAt ts) k)) ∧ (IsW w0 w) ∧ Fr 47 [(0, vt), (1, vw), (5, .int .i64 k), (6, .string (geta ts k)), (17, vt), (18, .int .i64 ts.length), (19, .int .i64 k)] a) No 9 (fun a w => IsW w0 w ∧ Fr 47 [(4, .int .i64 (weightsE ts ws))] a) := by
  refine T3.leaf ?_
  rintro Q JS JX JT K hS hK hX hE hT hR a w ⟨hpre, hW, ⟨fr, rfl, q0, q1, q17, q18, q19, _⟩⟩
  obtain ⟨hk0, hk1⟩ := hpre.1
  obtain ⟨_, hcs⟩ := h.t.els encSt_length (by decide)
  rcases hcs with ⟨rfl, h0⟩ | ⟨bz, off, cap, rfl, _, hbz, hnc, hcm, hcell⟩
  · omega
  have t0 := hcell k hk0 hk1 0 _ rfl
  rw [Nat.mul_one, Nat.add_zero] at t0
  clear hcell
  obtain rfl : w = w0 := hW
  rw [fr_cwP, show fr 0 = _ from q0, show fr 1 = _ from q1, show fr 17 = _ from q17, show fr 18 = _ from q18, show fr 19 = _ from q19]
  clear q0 q1 q17 q18 q19
  conv => arg 2; whnf
  go_wp2_with fail
  refine Met.intro (hS _ _ ?_)
  exact ⟨hpre, rfl, Fr.of _ rfl ⟨rfl, rfl, rfl, rfl, rfl, rfl, rfl, trivial⟩⟩

set_option maxRecDepth 100000 in
set_option maxHeartbeats 1000000 in
theorem cp8 (w0 : World) (vt vw : Value) (ts : List ByteArray) (ws : List Int) (h : WH w0 vt vw ts ws) (k : Int) : T3 Try.prog (fun a w => ((0 ≤ k ∧ k < ts.length) ∧ (NoErr (teamAt ts) k)) ∧ (IsW w0 w) ∧ Fr 47 [(0, vt), (1, vw), (5, .int .i64 k), (6, .string (geta ts k)), (17, vt), (18, .int .i64 ts.length), (19, .int .i64 k)] a) (sel [1, 1, 0, 1, 4, 4, 1, 1, 0, 4, 1, 0, 0] cwP) (fun a w => ∃ q, Fr 47 ((26, .bool q) :: [(0, vt), (1, vw), (5, .int .i64 k), (6, .string (geta ts k)), (17, vt), (18, .int .i64 ts.length), (19, .int .i64 k)]) a ∧ ((((0 ≤ k ∧ k < ts.length) ∧ (NoErr (teamAt ts) k)) ∧ q = !keyB (geta ts k)) ∧ IsW w0 w)) No 9 (fun a w => IsW w0 w ∧ Fr 47 [(4, .int .i64 (weightsE ts ws))] a) := by
  refine T3.leaf ?_
  rintro Q JS JX JT K hS hK hX hE hT hR a w ⟨hpre, hW, ⟨fr, rfl, q0, q1, q5, q6, q17, q18, q19, _⟩⟩
  have HK := Lib.hid (key_prog (geta ts k) w (h.z _ (geta_mem hpre.1.1 hpre.1.2)))
  generalize geta ts k = x at *
  generalize keyB x = q at *
  rw [fr_cwP, show fr 0 = _ from q0, show fr 1 = _ from q1, show fr 5 = _ from q5, show fr 6 = _ from q6, show fr 17 = _ from q17, show fr 18 = _ from q18, show fr 19 = _ from q19]
  clear q0 q1 q5 q6 q17 q18 q19
  conv => arg 2; whnf
  go_wp2_with fail
  refine HK.out.mono ?_
  rintro e w1 ⟨rfl, rfl⟩
  go_wp2_with fail
  refine Met.intro (hS _ _ ?_)
  exact ⟨_, Fr.of _ rfl ⟨rfl, rfl, rfl, rfl, rfl, rfl, rfl, rfl, trivial⟩, ⟨hpre, rfl⟩, hW⟩

set_option maxRecDepth 100000 in
set_option maxHeartbeats 1000000 in
theorem cp9 (w0 : World) (vt vw : Value) (ts : List ByteArray) (ws : List Int) (h : WH w0 vt vw ts ws) (k : Int) : T3 Try.prog (fun a w => ((0 ≤ k ∧ k < ts.length) ∧ (NoErr (teamAt ts) k)) ∧ (IsW w0 w) ∧ Fr 47 [(0, vt), (1, vw), (5, .int .i64 k), (6, .string (geta ts k)), (17, vt), (18, .int .i64 ts.length), (19, .int .i64 k)] a) (sel [1, 1, 0, 1, 4, 4, 1, 1, 0, 4, 1, 0, 1, 2, 0] cwP) (fun a w => (IsW w0 w) ∧ Fr 47 [(4, .int .i64 5)] a) No 9 (fun a w => IsW w0 w ∧ Fr 47 [(4, .int .i64 (weightsE ts ws))] a) := by
  refine T3.leaf ?_
  rintro Q JS JX JT K hS hK hX hE hT hR a w ⟨hpre, hW, ⟨fr, rfl, q0, q1, q5, q6, q17, q18, q19, _⟩⟩
  rw [fr_cwP, show fr 0 = _ from q0, show fr 1 = _ from q1, show fr 5 = _ from q5, show fr 6 = _ from q6, show fr 17 = _ from q17, show fr 18 = _ from q18, show fr 19 = _ from q19]
  clear q0 q1 q5 q6 q17 q18 q19
  conv => arg 2; whnf
  go_wp2_with fail
  refine Met.intro (hS _ _ ?_)
  exact ⟨hW, Fr.of _ rfl ⟨rfl, trivial⟩⟩

set_option maxRecDepth 100000 in
set_option maxHeartbeats 1000000 in
theorem cp10 (w0 : World) (vt vw : Value) (ts : List ByteArray) (ws : List Int) (h : WH w0 vt vw ts ws) (k : Int) : T3 Try.prog (fun a w => ((0 ≤ k ∧ k < ts.length) ∧ (NoErr (teamAt ts) k) ∧ keyB (geta ts k) = true) ∧ (IsW w0 w) ∧ Fr 47 [(0, vt), (1, vw), (5, .int .i64 k), (6, .string (geta ts k)), (17, vt), (18, .int .i64 ts.length), (19, .int .i64 k)] a) (sel [1, 1, 0, 1, 4, 4, 1, 1, 0, 4, 1, 1, 0] cwP) (fun a w => ∃ q, Fr 47 ((31, .bool q) :: [(0, vt), (1, vw), (5, .int .i64 k), (6, .string (geta ts k)), (17, vt), (18, .int .i64 ts.length), (19, .int .i64 k)]) a ∧ ((((0 ≤ k ∧ k < ts.length) ∧ (NoErr (teamAt ts) k) ∧ keyB (geta ts k) = true) ∧ q = hasTo ts k (geta ts k)) ∧ IsW w0 w)) No 9 (fun a w => IsW w0 w ∧ Fr 47 [(4, .int .i64 (weightsE ts ws))] a) := by
  refine T3.leaf ?_
  rintro Q JS JX JT K hS hK hX hE hT hR a w ⟨hpre, hW, ⟨fr, rfl, q0, q1, q5, q6, q17, q18, q19, _⟩⟩
  have HP := Lib.hid hpre
  obtain ⟨⟨hk0, hk1⟩, _⟩ := hpre
  obtain ⟨_, hcs⟩ := h.t.els encSt_length (by decide)
  rcases hcs with ⟨rfl, h0⟩ | ⟨bz, off, cap, rfl, _, hbz, hnc, hcm, hcell⟩
  · omega
  have HC := Lib.hid (contains_str _ k.toNat (ts.take k.toNat) (geta ts k) 0 w0 (Row.first encSt_length h.t rfl (by omega)))
  have hbq : (0 : Int) ≤ k ∧ k ≤ ts.length ∧ (ts.length : Int) ≤ cap := by omega
  clear hcell
  obtain rfl : w = w0 := hW
  have HE := Lib.hid (show hasS (ts.take k.toNat) (geta ts k) = hasTo ts k (geta ts k) from rfl)
  rw [HE.out] at HC
  generalize geta ts k = x at *
  generalize hasTo ts k x = q at *
  rw [fr_cwP, show fr 0 = _ from q0, show fr 1 = _ from q1, show fr 5 = _ from q5, show fr 6 = _ from q6, show fr 17 = _ from q17, show fr 18 = _ from q18, show fr 19 = _ from q19]
  clear q0 q1 q5 q6 q17 q18 q19
  conv => arg 2; whnf
  go_wp2_with fail
  refine HC.out.mono ?_
  rintro e w1 ⟨rfl, rfl⟩
  go_wp2_with fail
  have hpre := HP.out
  refine Met.intro (hS _ _ ?_)
  exact ⟨_, Fr.of _ rfl ⟨rfl, rfl, rfl, rfl, rfl, rfl, rfl, rfl, trivial⟩, ⟨hpre, rfl⟩, rfl⟩

set_option maxRecDepth 100000 in
set_option maxHeartbeats 1000000 in
theorem cp11 (w0 : World) (vt vw : Value) (ts : List ByteArray) (ws : List Int) (h : WH w0 vt vw ts ws) (k : Int) : T3 Try.prog (fun a w => ((0 ≤ k ∧ k < ts.length) ∧ (NoErr (teamAt ts) k) ∧ keyB (geta ts k) = true) ∧ (IsW w0 w) ∧ Fr 47 [(0, vt), (1, vw), (5, .int .i64 k), (6, .string (geta ts k)), (17, vt), (18, .int .i64 ts.length), (19, .int .i64 k)] a) (sel [1, 1, 0, 1, 4, 4, 1, 1, 0, 4, 1, 1, 1, 2, 0] cwP) (fun a w => (IsW w0 w) ∧ Fr 47 [(4, .int .i64 6)] a) No 9 (fun a w => IsW w0 w ∧ Fr 47 [(4, .int .i64 (weightsE ts ws))] a) := by
  refine T3.leaf ?_
  rintro Q JS JX JT K hS hK hX hE hT hR a w ⟨hpre, hW, ⟨fr, rfl, q0, q1, q5, q6, q17, q18, q19, _⟩⟩
  rw [fr_cwP, show fr 0 = _ from q0, show fr 1 = _ from q1, show fr 5 = _ from q5, show fr 6 = _ from q6, show fr 17 = _ from q17, show fr 18 = _ from q18, show fr 19 = _ from q19]
  clear q0 q1 q5 q6 q17 q18 q19
  conv => arg 2; whnf
  go_wp2_with fail
  refine Met.intro (hS _ _ ?_)
  exact ⟨hW, Fr.of _ rfl ⟨rfl, trivial⟩⟩

set_option maxRecDepth 100000 in
set_option maxHeartbeats 1000000 in
theorem cpb (w0 : World) (vt vw : Value) (ts : List ByteArray) (ws : List Int) (h : WH w0 vt vw ts ws) (k : Int) (hok : WOk1 ts) : T3 Try.prog (fun a w => ((0 ≤ k ∧ k < ts.length) ∧ (NoErr (teamAt ts) k)) ∧ (IsW w0 w) ∧ Fr 47 [(0, vt), (1, vw), (17, vt), (18, .int .i64 ts.length), (19, .int .i64 k)] a) (sel [1, 1, 0, 1, 4, 4, 1, 1, 0] cwP) (fun a w => ((0 ≤ k ∧ k < ts.length) ∧ (NoErr (teamAt ts) (k + 1))) ∧ (IsW w0 w) ∧ Fr 47 [(0, vt), (1, vw), (17, vt), (18, .int .i64 ts.length), (19, .int .i64 k)] a) No 9 (fun a w => IsW w0 w ∧ Fr 47 [(4, .int .i64 (weightsE ts ws))] a) := by
  refine T3.block (id' := 2) (c := (sel [1, 1, 0, 1, 4, 4, 1, 1, 0, 4] cwP)) (by decide) ?_
  refine T3.seq (s := (sel [1, 1, 0, 1, 4, 4, 1, 1, 0, 4, 0] cwP)) (c := (sel [1, 1, 0, 1, 4, 4, 1, 1, 0, 4, 1] cwP)) (cp7 w0 vt vw ts ws h k) ?_
  refine T3.seq (s := (sel [1, 1, 0, 1, 4, 4, 1, 1, 0, 4, 1, 0] cwP)) (c := (sel [1, 1, 0, 1, 4, 4, 1, 1, 0, 4, 1, 1] cwP)) (S := (fun a w => ((0 ≤ k ∧ k < ts.length) ∧ (NoErr (teamAt ts) k) ∧ keyB (geta ts k) = true) ∧ (IsW w0 w) ∧ Fr 47 [(0, vt), (1, vw), (5, .int .i64 k), (6, .string (geta ts k)), (17, vt), (18, .int .i64 ts.length), (19, .int .i64 k)] a)) ?_ ?_
  · refine T3.test (s := (sel [1, 1, 0, 1, 4, 4, 1, 1, 0, 4, 1, 0, 0] cwP)) (x := (sel [1, 1, 0, 1, 4, 4, 1, 1, 0, 4, 1, 0, 1, 2] cwP)) (y := .skip) (C := fun q => (((0 ≤ k ∧ k < ts.length) ∧ (NoErr (teamAt ts) k)) ∧ q = !keyB (geta ts k))) (W := fun w => IsW w0 w) (by decide) (cp8 w0 vt vw ts ws h k) ?_ (T3.skip ?_)
    · refine T3.seq (s := (sel [1, 1, 0, 1, 4, 4, 1, 1, 0, 4, 1, 0, 1, 2, 0] cwP)) (c := .ret) (t3_seqx (p := ((0 ≤ k ∧ k < ts.length) ∧ (NoErr (teamAt ts) k)) ∧ keyB (geta ts k) = false) (cp9 w0 vt vw ts ws h k) ?_) (T3.ret ?_)
      · rintro a w ⟨hF, ⟨hp, hq⟩, hW⟩
        exact ⟨⟨hp, by simpa using hq.symm⟩, hp, hW, hF.tail⟩
      · rintro a w ⟨⟨hp, hkb⟩, hW, hF⟩
        have e : teamAt ts k = 5 := by unfold teamAt; rw [if_pos hkb]
        exact ⟨hW, by rw [we_team hok hp.1.1 hp.1.2 hp.2 (by rw [e]; decide), e]; exact hF⟩
    · rintro a w ⟨⟨hp, hq⟩, hW, hF⟩
      exact ⟨⟨hp.1, hp.2, by simpa using hq.symm⟩, hW, hF⟩
  · refine T3.test (s := (sel [1, 1, 0, 1, 4, 4, 1, 1, 0, 4, 1, 1, 0] cwP)) (x := (sel [1, 1, 0, 1, 4, 4, 1, 1, 0, 4, 1, 1, 1, 2] cwP)) (y := .skip) (C := fun q => (((0 ≤ k ∧ k < ts.length) ∧ (NoErr (teamAt ts) k) ∧ keyB (geta ts k) = true) ∧ q = hasTo ts k (geta ts k))) (W := fun w => IsW w0 w) (by decide) ((cp10 w0 vt vw ts ws h k).pre (fun a w q => ⟨⟨q.1.1, q.1.2.1, q.1.2.2⟩, q.2⟩)) ?_ (T3.skip ?_)
    · refine T3.seq (s := (sel [1, 1, 0, 1, 4, 4, 1, 1, 0, 4, 1, 1, 1, 2, 0] cwP)) (c := .ret) (t3_seqx (p := ((0 ≤ k ∧ k < ts.length) ∧ (NoErr (teamAt ts) k) ∧ keyB (geta ts k) = true) ∧ hasTo ts k (geta ts k) = true) (cp11 w0 vt vw ts ws h k) ?_) (T3.ret ?_)
      · rintro a w ⟨hF, ⟨hp, hq⟩, hW⟩
        exact ⟨⟨hp, hq.symm⟩, hp, hW, hF.tail⟩
      · rintro a w ⟨⟨hp, hh⟩, hW, hF⟩
        have e : teamAt ts k = 6 := by unfold teamAt; rw [if_neg (by rw [hp.2.2]; decide), if_pos hh]
        exact ⟨hW, by rw [we_team hok hp.1.1 hp.1.2 hp.2.1 (by rw [e]; decide), e]; exact hF⟩
    · rintro a w ⟨⟨hp, hq⟩, hW, hF⟩
      refine ⟨⟨hp.1, hp.2.1.step ?_⟩, hW, hF.sub (by simp)⟩
      unfold teamAt
      rw [if_neg (by rw [hp.2.2]; decide), if_neg (by rw [← hq]; decide)]

def cptI (w0 : World) (vt vw : Value) (ts : List ByteArray) (ws : List Int) (h : WH w0 vt vw ts ws) (hok : WOk1 ts) (k : Int) (a : Act) (w : World) : Prop := (0 ≤ k ∧ k ≤ ts.length) ∧ (NoErr (teamAt ts) k) ∧ (IsW w0 w) ∧ Fr 47 [(0, vt), (1, vw), (17, vt), (18, .int .i64 ts.length), (19, .int .i64 k)] a
set_option maxRecDepth 100000 in
set_option maxHeartbeats 1000000 in
theorem cptt (w0 : World) (vt vw : Value) (ts : List ByteArray) (ws : List Int) (h : WH w0 vt vw ts ws) (hok : WOk1 ts) (k : Int) : T3 Try.prog (fun a w => cptI w0 vt vw ts ws h hok k a w) (sel [1, 1, 0, 1, 4, 4, 0] cwP) (fun a w => ∃ q, Fr 47 ((20, .bool q) :: [(19, .int .i64 k)]) a ∧ ((q = true ↔ k < ts.length) ∧ cptI w0 vt vw ts ws h hok k a w)) No 9 (fun a w => IsW w0 w ∧ Fr 47 [(4, .int .i64 (weightsE ts ws))] a) := by
  refine T3.leaf ?_
  rintro Q JS JX JT K hS hK hX hE hT hR a w ⟨hk, hpre, hW, ⟨fr, rfl, q0, q1, q17, q18, q19, _⟩⟩
  have hl := h.tn
  rw [fr_cwP, show fr 0 = _ from q0, show fr 1 = _ from q1, show fr 17 = _ from q17, show fr 18 = _ from q18, show fr 19 = _ from q19]
  clear q0 q1 q17 q18 q19
  conv => arg 2; whnf
  by_cases hlt : k < ts.length
  · go_wp2_with fail
    refine Met.intro (hS _ _ ?_)
    exact ⟨true, Fr.of _ rfl ⟨rfl, rfl, trivial⟩, ⟨fun _ => hlt, fun _ => rfl⟩, hk, hpre, hW, Fr.of _ rfl ⟨rfl, rfl, rfl, rfl, rfl, trivial⟩⟩
  · have hpb : decide (k < (ts.length : Int)) = false := by simp; omega
    go_wp2_with fail
    refine Met.intro (hS _ _ ?_)
    exact ⟨false, Fr.of _ rfl ⟨rfl, rfl, trivial⟩, ⟨(fun h => by cases h), fun h => absurd h (by omega)⟩, hk, hpre, hW, Fr.of _ rfl ⟨rfl, rfl, rfl, rfl, rfl, trivial⟩⟩

set_option maxRecDepth 100000 in
set_option maxHeartbeats 1000000 in
theorem cptn (w0 : World) (vt vw : Value) (ts : List ByteArray) (ws : List Int) (h : WH w0 vt vw ts ws) (hok : WOk1 ts) (k : Int) : T3 Try.prog (fun a w => (0 ≤ k ∧ k < ts.length) ∧ (NoErr (teamAt ts) (k + 1)) ∧ (IsW w0 w) ∧ Fr 47 [(0, vt), (1, vw), (17, vt), (18, .int .i64 ts.length), (19, .int .i64 k)] a) (sel [1, 1, 0, 1, 4, 4, 1, 1, 1] cwP) (fun a w => cptI w0 vt vw ts ws h hok (k + 1) a w) No 9 (fun a w => IsW w0 w ∧ Fr 47 [(4, .int .i64 (weightsE ts ws))] a) := by
  refine T3.leaf ?_
  rintro Q JS JX JT K hS hK hX hE hT hR a w ⟨hk, hpre, hW, ⟨fr, rfl, q0, q1, q17, q18, q19, _⟩⟩
  obtain ⟨hk0, hk1⟩ := hk
  have hl := h.tn
  rw [fr_cwP, show fr 0 = _ from q0, show fr 1 = _ from q1, show fr 17 = _ from q17, show fr 18 = _ from q18, show fr 19 = _ from q19]
  clear q0 q1 q17 q18 q19
  conv => arg 2; whnf
  go_wp2_with fail
  refine Met.intro (hS _ _ ?_)
  exact ⟨⟨by omega, by omega⟩, hpre, hW, Fr.of _ rfl ⟨rfl, rfl, rfl, rfl, rfl, trivial⟩⟩

set_option maxRecDepth 100000 in
set_option maxHeartbeats 1000000 in
theorem cptloop (w0 : World) (vt vw : Value) (ts : List ByteArray) (ws : List Int) (h : WH w0 vt vw ts ws) (hok : WOk1 ts) : T3 Try.prog (fun a w => cptI w0 vt vw ts ws h hok 0 a w) (sel [1, 1, 0, 1] cwP) (fun a w => (NoErr (teamAt ts) ts.length) ∧ (IsW w0 w) ∧ Fr 47 [(0, vt), (1, vw)] a) No 9 (fun a w => IsW w0 w ∧ Fr 47 [(4, .int .i64 (weightsE ts ws))] a) := by
  refine T3.loop (c := (sel [1, 1, 0, 1, 4, 4] cwP)) (fun n a w => ∃ k : Int, (n : Int) = ts.length - k ∧ cptI w0 vt vw ts ws h hok k a w) (fun a w h => ⟨(ts.length : Int).toNat, 0, by have := h.1.2; omega, h⟩) (fun n => T3.ex fun k => T3.pure fun hn => ?_)
  refine T3.seq (s := (sel [1, 1, 0, 1, 4, 4, 0] cwP)) (c := (sel [1, 1, 0, 1, 4, 4, 1] cwP)) ((cptt w0 vt vw ts ws h hok k).noX) ?_
  refine T3.seq (s := (sel [1, 1, 0, 1, 4, 4, 1, 0] cwP)) (c := (sel [1, 1, 0, 1, 4, 4, 1, 1] cwP)) (S := fun a w => (0 ≤ k ∧ k < ts.length) ∧ (NoErr (teamAt ts) k) ∧ (IsW w0 w) ∧ Fr 47 [(0, vt), (1, vw), (17, vt), (18, .int .i64 ts.length), (19, .int .i64 k)] a) ?_ (T3.seq (s := (sel [1, 1, 0, 1, 4, 4, 1, 1, 0] cwP)) (c := (sel [1, 1, 0, 1, 4, 4, 1, 1, 1] cwP)) (S := fun a w => (0 ≤ k ∧ k < ts.length) ∧ (NoErr (teamAt ts) (k + 1)) ∧ (IsW w0 w) ∧ Fr 47 [(0, vt), (1, vw), (17, vt), (18, .int .i64 ts.length), (19, .int .i64 k)] a) (T3.noX (T3.mono (R' := fun a w => (0 ≤ k ∧ k < ts.length) ∧ (NoErr (teamAt ts) k) ∧ (IsW w0 w) ∧ Fr 47 [(0, vt), (1, vw), (17, vt), (18, .int .i64 ts.length), (19, .int .i64 k)] a) (S' := fun a w => (0 ≤ k ∧ k < ts.length) ∧ (NoErr (teamAt ts) (k + 1)) ∧ (IsW w0 w) ∧ Fr 47 [(0, vt), (1, vw), (17, vt), (18, .int .i64 ts.length), (19, .int .i64 k)] a) (cpb w0 vt vw ts ws h k hok) (fun a w ⟨hk, hp, hI⟩ => ⟨⟨hk, hp⟩, hI⟩) (fun a w ⟨⟨hk, hp⟩, hI⟩ => ⟨hk, hp, hI⟩) (fun _ _ q => q) (fun _ _ q => q))) ?_)
  · refine T3.cond (o := .tmp 20) (x := .skip) (y := .exit 1) (fun a w => k < ts.length ∧ cptI w0 vt vw ts ws h hok k a w) (fun a w => ¬ k < ts.length ∧ cptI w0 vt vw ts ws h hok k a w) ?_ (T3.skip ?_) (T3.exit ?_)
    · rintro a w ⟨q, hF, hq, hI⟩
      have he := hF.eval 20 (by decide) (v := .bool q) (by simp)
      cases q
      · exact .inr ⟨he, (fun h => by have := hq.2 h; cases this), hI⟩
      · exact .inl ⟨he, hq.1 rfl, hI⟩
    · rintro a w ⟨hlt, hk, hI⟩
      exact ⟨⟨hk.1, hlt⟩, hI⟩
    · rintro a w ⟨hlt, hk, hI⟩
      obtain rfl : k = ts.length := by omega
      exact ⟨hI.1, hI.2.1, hI.2.2.sub (by simp)⟩
  · intro a w hx
    have hk := hx.1
    exact (((cptn w0 vt vw ts ws h hok k).noX).post (fun a w q => ⟨n - 1, by omega, k + 1, by omega, q⟩)) a w hx
set_option maxRecDepth 100000 in
set_option maxHeartbeats 1000000 in
theorem cp13 (w0 : World) (vt vw : Value) (ts : List ByteArray) (ws : List Int) (h : WH w0 vt vw ts ws) : T3 Try.prog (fun a w => (NoErr (teamAt ts) ts.length) ∧ (IsW w0 w) ∧ Fr 47 [(0, vt), (1, vw)] a) (sel [1, 1, 1, 0, 0] cwP) (fun a w => ∃ q, Fr 47 ((37, .bool q) :: [(0, vt), (1, vw)]) a ∧ (((NoErr (teamAt ts) ts.length) ∧ q = decide ((ws.length : Int) ≠ ts.length)) ∧ IsW w0 w)) No 9 (fun a w => IsW w0 w ∧ Fr 47 [(4, .int .i64 (weightsE ts ws))] a) := by
  refine T3.leaf ?_
  rintro Q JS JX JT K hS hK hX hE hT hR a w ⟨hpre, hW, ⟨fr, rfl, q0, q1, _⟩⟩
  obtain ⟨p1, c1, hv1⟩ := h.t.shape
  subst hv1
  obtain ⟨p2, c2, hv2⟩ := h.w.shape
  subst hv2
  have hpp := Lib.hid hpre
  clear hpre
  have hb1 : ((ws.length : Int) != ts.length) = decide ((ws.length : Int) ≠ ts.length) := by by_cases hq : ((ws.length : Int) = ts.length) <;> simp [hq]
  generalize decide ((ws.length : Int) ≠ ts.length) = q at *
  rw [fr_cwP, show fr 0 = _ from q0, show fr 1 = _ from q1]
  clear q0 q1
  conv => arg 2; whnf
  go_wp2_with fail
  have hpre := hpp.out
  refine Met.intro (hS _ _ ?_)
  exact ⟨_, Fr.of _ rfl ⟨rfl, rfl, rfl, trivial⟩, ⟨hpre, rfl⟩, hW⟩

set_option maxRecDepth 100000 in
set_option maxHeartbeats 1000000 in
theorem cp14 (w0 : World) (vt vw : Value) (ts : List ByteArray) (ws : List Int) (h : WH w0 vt vw ts ws) : T3 Try.prog (fun a w => (NoErr (teamAt ts) ts.length) ∧ (IsW w0 w) ∧ Fr 47 [(0, vt), (1, vw)] a) (sel [1, 1, 1, 0, 1, 2, 0] cwP) (fun a w => (IsW w0 w) ∧ Fr 47 [(4, .int .i64 3)] a) No 9 (fun a w => IsW w0 w ∧ Fr 47 [(4, .int .i64 (weightsE ts ws))] a) := by
  refine T3.leaf ?_
  rintro Q JS JX JT K hS hK hX hE hT hR a w ⟨hpre, hW, ⟨fr, rfl, q0, q1, _⟩⟩
  rw [fr_cwP, show fr 0 = _ from q0, show fr 1 = _ from q1]
  clear q0 q1
  conv => arg 2; whnf
  go_wp2_with fail
  refine Met.intro (hS _ _ ?_)
  exact ⟨hW, Fr.of _ rfl ⟨rfl, trivial⟩⟩

set_option maxRecDepth 100000 in
set_option maxHeartbeats 1000000 in
theorem cp15 (w0 : World) (vt vw : Value) (ts : List ByteArray) (ws : List Int) (h : WH w0 vt vw ts ws) : T3 Try.prog (fun a w => (IsW w0 w) ∧ Fr 47 [(0, vt), (1, vw)] a) (sel [1, 1, 1, 1, 0, 0] cwP) (fun a w => (0 ≤ (0 : Int) ∧ (0 : Int) ≤ ws.length) ∧ (NoErr (wgtAt ws) 0) ∧ (IsW w0 w) ∧ Fr 47 [(38, vw), (39, .int .i64 ws.length), (40, .int .i64 0)] a) No 9 (fun a w => IsW w0 w ∧ Fr 47 [(4, .int .i64 (weightsE ts ws))] a) := by
  refine T3.leaf ?_
  rintro Q JS JX JT K hS hK hX hE hT hR a w ⟨hW, ⟨fr, rfl, q0, q1, _⟩⟩
  obtain ⟨p1, c1, hv1⟩ := h.t.shape
  subst hv1
  obtain ⟨p2, c2, hv2⟩ := h.w.shape
  subst hv2
  rw [fr_cwP, show fr 0 = _ from q0, show fr 1 = _ from q1]
  clear q0 q1
  conv => arg 2; whnf
  go_wp2_with fail
  refine Met.intro (hS _ _ ?_)
  exact ⟨⟨by omega, by omega⟩, NoErr.zero _, hW, Fr.of _ rfl ⟨rfl, rfl, rfl, trivial⟩⟩

set_option maxRecDepth 100000 in
set_option maxHeartbeats 1000000 in
theorem cp17 (w0 : World) (vt vw : Value) (ts : List ByteArray) (ws : List Int) (h : WH w0 vt vw ts ws) (k : Int) : T3 Try.prog (fun a w => ((0 ≤ k ∧ k < ws.length) ∧ (NoErr (wgtAt ws) k)) ∧ (IsW w0 w) ∧ Fr 47 [(38, vw), (39, .int .i64 ws.length), (40, .int .i64 k)] a) (sel [1, 1, 1, 1, 0, 1, 4, 4, 1, 1, 0, 4, 0] cwP) (fun a w => ((0 ≤ k ∧ k < ws.length) ∧ (NoErr (wgtAt ws) k)) ∧ (IsW w0 w) ∧ Fr 47 [(8, .int .i64 (geti ws k)), (38, vw), (39, .int .i64 ws.length), (40, .int .i64 k)] a) No 9 (fun a w => IsW w0 w ∧ Fr 47 [(4, .int .i64 (weightsE ts ws))] a) := by
  refine T3.leaf ?_
  rintro Q JS JX JT K hS hK hX hE hT hR a w ⟨hpre, hW, ⟨fr, rfl, q38, q39, q40, _⟩⟩
  obtain ⟨hk0, hk1⟩ := hpre.1
  obtain ⟨_, hcs⟩ := h.w.ints
  rcases hcs with ⟨rfl, h0⟩ | ⟨bz, off, cap, rfl, _, hbz, hnc, hcm, hcell⟩
  · omega
  have t0 := hcell k hk0 hk1
  clear hcell
  obtain rfl : w = w0 := hW
  rw [fr_cwP, show fr 38 = _ from q38, show fr 39 = _ from q39, show fr 40 = _ from q40]
  clear q38 q39 q40
  conv => arg 2; whnf
  go_wp2_with fail
  refine Met.intro (hS _ _ ?_)
  exact ⟨hpre, rfl, Fr.of _ rfl ⟨rfl, rfl, rfl, rfl, trivial⟩⟩

set_option maxRecDepth 100000 in
set_option maxHeartbeats 1000000 in
theorem cp18 (w0 : World) (vt vw : Value) (ts : List ByteArray) (ws : List Int) (h : WH w0 vt vw ts ws) (k : Int) : T3 Try.prog (fun a w => ((0 ≤ k ∧ k < ws.length) ∧ (NoErr (wgtAt ws) k)) ∧ (IsW w0 w) ∧ Fr 47 [(8, .int .i64 (geti ws k)), (38, vw), (39, .int .i64 ws.length), (40, .int .i64 k)] a) (sel [1, 1, 1, 1, 0, 1, 4, 4, 1, 1, 0, 4, 1, 0] cwP) (fun a w => ∃ q, Fr 47 ((45, .bool q) :: [(8, .int .i64 (geti ws k)), (38, vw), (39, .int .i64 ws.length), (40, .int .i64 k)]) a ∧ ((((0 ≤ k ∧ k < ws.length) ∧ (NoErr (wgtAt ws) k)) ∧ q = outB (geti ws k) 1 1000) ∧ IsW w0 w)) No 9 (fun a w => IsW w0 w ∧ Fr 47 [(4, .int .i64 (weightsE ts ws))] a) := by
  refine T3.leaf ?_
  rintro Q JS JX JT K hS hK hX hE hT hR a w ⟨hpre, hW, ⟨fr, rfl, q8, q38, q39, q40, _⟩⟩
  have HK := Lib.hid (out_any (geti ws k) 1 1000 w)
  generalize geti ws k = x at *
  generalize outB x 1 1000 = q at *
  rw [fr_cwP, show fr 8 = _ from q8, show fr 38 = _ from q38, show fr 39 = _ from q39, show fr 40 = _ from q40]
  clear q8 q38 q39 q40
  conv => arg 2; whnf
  go_wp2_with fail
  refine HK.out.mono ?_
  rintro e w1 ⟨rfl, rfl⟩
  go_wp2_with fail
  refine Met.intro (hS _ _ ?_)
  exact ⟨_, Fr.of _ rfl ⟨rfl, rfl, rfl, rfl, rfl, trivial⟩, ⟨hpre, rfl⟩, hW⟩

set_option maxRecDepth 100000 in
set_option maxHeartbeats 1000000 in
theorem cp19 (w0 : World) (vt vw : Value) (ts : List ByteArray) (ws : List Int) (h : WH w0 vt vw ts ws) (k : Int) : T3 Try.prog (fun a w => ((0 ≤ k ∧ k < ws.length) ∧ (NoErr (wgtAt ws) k)) ∧ (IsW w0 w) ∧ Fr 47 [(8, .int .i64 (geti ws k)), (38, vw), (39, .int .i64 ws.length), (40, .int .i64 k)] a) (sel [1, 1, 1, 1, 0, 1, 4, 4, 1, 1, 0, 4, 1, 1, 2, 0] cwP) (fun a w => (IsW w0 w) ∧ Fr 47 [(4, .int .i64 1)] a) No 9 (fun a w => IsW w0 w ∧ Fr 47 [(4, .int .i64 (weightsE ts ws))] a) := by
  refine T3.leaf ?_
  rintro Q JS JX JT K hS hK hX hE hT hR a w ⟨hpre, hW, ⟨fr, rfl, q8, q38, q39, q40, _⟩⟩
  rw [fr_cwP, show fr 8 = _ from q8, show fr 38 = _ from q38, show fr 39 = _ from q39, show fr 40 = _ from q40]
  clear q8 q38 q39 q40
  conv => arg 2; whnf
  go_wp2_with fail
  refine Met.intro (hS _ _ ?_)
  exact ⟨hW, Fr.of _ rfl ⟨rfl, trivial⟩⟩

set_option maxRecDepth 100000 in
set_option maxHeartbeats 1000000 in
theorem cpv (w0 : World) (vt vw : Value) (ts : List ByteArray) (ws : List Int) (h : WH w0 vt vw ts ws) (k : Int) (hok : WOk1 ts) (hfx : WOk2 ts ws) : T3 Try.prog (fun a w => ((0 ≤ k ∧ k < ws.length) ∧ (NoErr (wgtAt ws) k)) ∧ (IsW w0 w) ∧ Fr 47 [(38, vw), (39, .int .i64 ws.length), (40, .int .i64 k)] a) (sel [1, 1, 1, 1, 0, 1, 4, 4, 1, 1, 0] cwP) (fun a w => ((0 ≤ k ∧ k < ws.length) ∧ (NoErr (wgtAt ws) (k + 1))) ∧ (IsW w0 w) ∧ Fr 47 [(38, vw), (39, .int .i64 ws.length), (40, .int .i64 k)] a) No 9 (fun a w => IsW w0 w ∧ Fr 47 [(4, .int .i64 (weightsE ts ws))] a) := by
  refine T3.block (id' := 4) (c := (sel [1, 1, 1, 1, 0, 1, 4, 4, 1, 1, 0, 4] cwP)) (by decide) ?_
  refine T3.seq (s := (sel [1, 1, 1, 1, 0, 1, 4, 4, 1, 1, 0, 4, 0] cwP)) (c := (sel [1, 1, 1, 1, 0, 1, 4, 4, 1, 1, 0, 4, 1] cwP)) (cp17 w0 vt vw ts ws h k) ?_
  refine T3.test (s := (sel [1, 1, 1, 1, 0, 1, 4, 4, 1, 1, 0, 4, 1, 0] cwP)) (x := (sel [1, 1, 1, 1, 0, 1, 4, 4, 1, 1, 0, 4, 1, 1, 2] cwP)) (y := .skip) (C := fun q => (((0 ≤ k ∧ k < ws.length) ∧ (NoErr (wgtAt ws) k)) ∧ q = outB (geti ws k) 1 1000)) (W := fun w => IsW w0 w) (by decide) (cp18 w0 vt vw ts ws h k) ?_ (T3.skip ?_)
  · refine T3.seq (s := (sel [1, 1, 1, 1, 0, 1, 4, 4, 1, 1, 0, 4, 1, 1, 2, 0] cwP)) (c := .ret) (t3_seqx (p := ((0 ≤ k ∧ k < ws.length) ∧ (NoErr (wgtAt ws) k)) ∧ outB (geti ws k) 1 1000 = true) (cp19 w0 vt vw ts ws h k) ?_) (T3.ret ?_)
    · rintro a w ⟨hF, ⟨hp, hq⟩, hW⟩
      exact ⟨⟨hp, hq.symm⟩, hp, hW, hF.tail⟩
    · rintro a w ⟨⟨hp, hh⟩, hW, hF⟩
      have e : wgtAt ws k = 1 := by unfold wgtAt; rw [if_pos hh]
      exact ⟨hW, by rw [we_last hok hfx.1 hfx.2, firstErr_hit hp.2 hp.1.1 hp.1.2 (by rw [e]; decide), e]; exact hF⟩
  · rintro a w ⟨⟨hp, hq⟩, hW, hF⟩
    refine ⟨⟨hp.1, hp.2.step ?_⟩, hW, hF.sub (by simp)⟩
    unfold wgtAt
    rw [if_neg (by rw [← hq]; decide)]

def cpwI (w0 : World) (vt vw : Value) (ts : List ByteArray) (ws : List Int) (h : WH w0 vt vw ts ws) (hok : WOk1 ts) (hfx : WOk2 ts ws) (k : Int) (a : Act) (w : World) : Prop := (0 ≤ k ∧ k ≤ ws.length) ∧ (NoErr (wgtAt ws) k) ∧ (IsW w0 w) ∧ Fr 47 [(38, vw), (39, .int .i64 ws.length), (40, .int .i64 k)] a
set_option maxRecDepth 100000 in
set_option maxHeartbeats 1000000 in
theorem cpwt (w0 : World) (vt vw : Value) (ts : List ByteArray) (ws : List Int) (h : WH w0 vt vw ts ws) (hok : WOk1 ts) (hfx : WOk2 ts ws) (k : Int) : T3 Try.prog (fun a w => cpwI w0 vt vw ts ws h hok hfx k a w) (sel [1, 1, 1, 1, 0, 1, 4, 4, 0] cwP) (fun a w => ∃ q, Fr 47 ((41, .bool q) :: [(40, .int .i64 k)]) a ∧ ((q = true ↔ k < ws.length) ∧ cpwI w0 vt vw ts ws h hok hfx k a w)) No 9 (fun a w => IsW w0 w ∧ Fr 47 [(4, .int .i64 (weightsE ts ws))] a) := by
  refine T3.leaf ?_
  rintro Q JS JX JT K hS hK hX hE hT hR a w ⟨hk, hpre, hW, ⟨fr, rfl, q38, q39, q40, _⟩⟩
  have hl := h.wn
  rw [fr_cwP, show fr 38 = _ from q38, show fr 39 = _ from q39, show fr 40 = _ from q40]
  clear q38 q39 q40
  conv => arg 2; whnf
  by_cases hlt : k < ws.length
  · go_wp2_with fail
    refine Met.intro (hS _ _ ?_)
    exact ⟨true, Fr.of _ rfl ⟨rfl, rfl, trivial⟩, ⟨fun _ => hlt, fun _ => rfl⟩, hk, hpre, hW, Fr.of _ rfl ⟨rfl, rfl, rfl, trivial⟩⟩
  · have hpb : decide (k < (ws.length : Int)) = false := by simp; omega
    go_wp2_with fail
    refine Met.intro (hS _ _ ?_)
    exact ⟨false, Fr.of _ rfl ⟨rfl, rfl, trivial⟩, ⟨(fun h => by cases h), fun h => absurd h (by omega)⟩, hk, hpre, hW, Fr.of _ rfl ⟨rfl, rfl, rfl, trivial⟩⟩

set_option maxRecDepth 100000 in
set_option maxHeartbeats 1000000 in
theorem cpwn (w0 : World) (vt vw : Value) (ts : List ByteArray) (ws : List Int) (h : WH w0 vt vw ts ws) (hok : WOk1 ts) (hfx : WOk2 ts ws) (k : Int) : T3 Try.prog (fun a w => (0 ≤ k ∧ k < ws.length) ∧ (NoErr (wgtAt ws) (k + 1)) ∧ (IsW w0 w) ∧ Fr 47 [(38, vw), (39, .int .i64 ws.length), (40, .int .i64 k)] a) (sel [1, 1, 1, 1, 0, 1, 4, 4, 1, 1, 1] cwP) (fun a w => cpwI w0 vt vw ts ws h hok hfx (k + 1) a w) No 9 (fun a w => IsW w0 w ∧ Fr 47 [(4, .int .i64 (weightsE ts ws))] a) := by
  refine T3.leaf ?_
  rintro Q JS JX JT K hS hK hX hE hT hR a w ⟨hk, hpre, hW, ⟨fr, rfl, q38, q39, q40, _⟩⟩
  obtain ⟨hk0, hk1⟩ := hk
  have hl := h.wn
  rw [fr_cwP, show fr 38 = _ from q38, show fr 39 = _ from q39, show fr 40 = _ from q40]
  clear q38 q39 q40
  conv => arg 2; whnf
  go_wp2_with fail
  refine Met.intro (hS _ _ ?_)
  exact ⟨⟨by omega, by omega⟩, hpre, hW, Fr.of _ rfl ⟨rfl, rfl, rfl, trivial⟩⟩

set_option maxRecDepth 100000 in
set_option maxHeartbeats 1000000 in
theorem cpwloop (w0 : World) (vt vw : Value) (ts : List ByteArray) (ws : List Int) (h : WH w0 vt vw ts ws) (hok : WOk1 ts) (hfx : WOk2 ts ws) : T3 Try.prog (fun a w => cpwI w0 vt vw ts ws h hok hfx 0 a w) (sel [1, 1, 1, 1, 0, 1] cwP) (fun a w => (NoErr (wgtAt ws) ws.length) ∧ (IsW w0 w) ∧ Fr 47 [] a) No 9 (fun a w => IsW w0 w ∧ Fr 47 [(4, .int .i64 (weightsE ts ws))] a) := by
  refine T3.loop (c := (sel [1, 1, 1, 1, 0, 1, 4, 4] cwP)) (fun n a w => ∃ k : Int, (n : Int) = ws.length - k ∧ cpwI w0 vt vw ts ws h hok hfx k a w) (fun a w h => ⟨(ws.length : Int).toNat, 0, by have := h.1.2; omega, h⟩) (fun n => T3.ex fun k => T3.pure fun hn => ?_)
  refine T3.seq (s := (sel [1, 1, 1, 1, 0, 1, 4, 4, 0] cwP)) (c := (sel [1, 1, 1, 1, 0, 1, 4, 4, 1] cwP)) ((cpwt w0 vt vw ts ws h hok hfx k).noX) ?_
  refine T3.seq (s := (sel [1, 1, 1, 1, 0, 1, 4, 4, 1, 0] cwP)) (c := (sel [1, 1, 1, 1, 0, 1, 4, 4, 1, 1] cwP)) (S := fun a w => (0 ≤ k ∧ k < ws.length) ∧ (NoErr (wgtAt ws) k) ∧ (IsW w0 w) ∧ Fr 47 [(38, vw), (39, .int .i64 ws.length), (40, .int .i64 k)] a) ?_ (T3.seq (s := (sel [1, 1, 1, 1, 0, 1, 4, 4, 1, 1, 0] cwP)) (c := (sel [1, 1, 1, 1, 0, 1, 4, 4, 1, 1, 1] cwP)) (S := fun a w => (0 ≤ k ∧ k < ws.length) ∧ (NoErr (wgtAt ws) (k + 1)) ∧ (IsW w0 w) ∧ Fr 47 [(38, vw), (39, .int .i64 ws.length), (40, .int .i64 k)] a) (T3.noX (T3.mono (R' := fun a w => (0 ≤ k ∧ k < ws.length) ∧ (NoErr (wgtAt ws) k) ∧ (IsW w0 w) ∧ Fr 47 [(38, vw), (39, .int .i64 ws.length), (40, .int .i64 k)] a) (S' := fun a w => (0 ≤ k ∧ k < ws.length) ∧ (NoErr (wgtAt ws) (k + 1)) ∧ (IsW w0 w) ∧ Fr 47 [(38, vw), (39, .int .i64 ws.length), (40, .int .i64 k)] a) (cpv w0 vt vw ts ws h k hok hfx) (fun a w ⟨hk, hp, hI⟩ => ⟨⟨hk, hp⟩, hI⟩) (fun a w ⟨⟨hk, hp⟩, hI⟩ => ⟨hk, hp, hI⟩) (fun _ _ q => q) (fun _ _ q => q))) ?_)
  · refine T3.cond (o := .tmp 41) (x := .skip) (y := .exit 3) (fun a w => k < ws.length ∧ cpwI w0 vt vw ts ws h hok hfx k a w) (fun a w => ¬ k < ws.length ∧ cpwI w0 vt vw ts ws h hok hfx k a w) ?_ (T3.skip ?_) (T3.exit ?_)
    · rintro a w ⟨q, hF, hq, hI⟩
      have he := hF.eval 41 (by decide) (v := .bool q) (by simp)
      cases q
      · exact .inr ⟨he, (fun h => by have := hq.2 h; cases this), hI⟩
      · exact .inl ⟨he, hq.1 rfl, hI⟩
    · rintro a w ⟨hlt, hk, hI⟩
      exact ⟨⟨hk.1, hlt⟩, hI⟩
    · rintro a w ⟨hlt, hk, hI⟩
      obtain rfl : k = ws.length := by omega
      exact ⟨hI.1, hI.2.1, hI.2.2.sub (by simp)⟩
  · intro a w hx
    have hk := hx.1
    exact (((cpwn w0 vt vw ts ws h hok hfx k).noX).post (fun a w q => ⟨n - 1, by omega, k + 1, by omega, q⟩)) a w hx
set_option maxRecDepth 100000 in
set_option maxHeartbeats 1000000 in
theorem cp21 (w0 : World) (vt vw : Value) (ts : List ByteArray) (ws : List Int) (h : WH w0 vt vw ts ws) : T3 Try.prog (fun a w => (NoErr (wgtAt ws) ws.length) ∧ (IsW w0 w) ∧ Fr 47 [] a) (sel [1, 1, 1, 1, 1, 0] cwP) (fun a w => (NoErr (wgtAt ws) ws.length) ∧ (IsW w0 w) ∧ Fr 47 [(4, .int .i64 0)] a) No 9 (fun a w => IsW w0 w ∧ Fr 47 [(4, .int .i64 (weightsE ts ws))] a) := by
  refine T3.leaf ?_
  rintro Q JS JX JT K hS hK hX hE hT hR a w ⟨hpre, hW, ⟨fr, rfl, _⟩⟩
  have hpp := Lib.hid hpre
  clear hpre
  rw [fr_cwP]
  conv => arg 2; whnf
  go_wp2_with fail
  refine Met.intro (hS _ _ ?_)
  exact ⟨hpp.out, hW, Fr.of _ rfl ⟨rfl, trivial⟩⟩

set_option maxRecDepth 100000 in
set_option maxHeartbeats 1000000 in
theorem cpall (w0 : World) (vt vw : Value) (ts : List ByteArray) (ws : List Int) (h : WH w0 vt vw ts ws) : T3 Try.prog (fun a w => (IsW w0 w) ∧ Fr 47 [(0, vt), (1, vw)] a) cwP No No 9 (fun a w => IsW w0 w ∧ Fr 47 [(4, .int .i64 (weightsE ts ws))] a) := by
  refine T3.seq (s := (sel [0] cwP)) (c := (sel [1] cwP)) (cp0 w0 vt vw ts ws h) ?_
  refine T3.seq (s := (sel [1, 0] cwP)) (c := (sel [1, 1] cwP)) (S := fun a w => WOk1 ts ∧ (IsW w0 w ∧ Fr 47 [(0, vt), (1, vw)] a)) ?_ (T3.pure fun hok => ?_)
  · refine T3.block (id' := 0) (c := (sel [1, 0, 4] cwP)) (by decide) ?_
    refine T3.seq (s := (sel [1, 0, 4, 0] cwP)) (c := (sel [1, 0, 4, 1] cwP)) (cp1 w0 vt vw ts ws h) (T3.iff (M := fun q w => (q = decide ((ts.length : Int) = 0)) ∧ IsW w0 w) (by decide) ?_ ?_)
    · refine T3.seq (s := (sel [1, 0, 4, 1, 2, 0] cwP)) (c := .ret) (t3_seqx (p := ts.length = 0) (cp2 w0 vt vw ts ws h) ?_) (T3.ret ?_)
      · rintro a w ⟨hF, hq, hW⟩
        exact ⟨by have := hq.symm; simp only [decide_eq_true_eq] at this; omega, hW, hF.tail⟩
      · rintro a w ⟨hp, hW, hF⟩
        exact ⟨hW, by rw [we_none hp]; exact hF⟩
    · refine T3.pre (R := fun a w => (ts.length ≠ 0) ∧ (IsW w0 w ∧ Fr 47 [(0, vt), (1, vw)] a)) (T3.pure fun hne => ?_) ?_
      · refine T3.seq (s := (sel [1, 0, 4, 1, 3, 0] cwP)) (c := (sel [1, 0, 4, 1, 3, 1] cwP)) (cp3 w0 vt vw ts ws h) (T3.iff (M := fun q w => (q = decide ((14 : Int) < ts.length)) ∧ IsW w0 w) (by decide) ?_ (T3.skip ?_))
        · refine T3.seq (s := (sel [1, 0, 4, 1, 3, 1, 2, 0] cwP)) (c := .ret) (t3_seqx (p := 14 < ts.length) (cp4 w0 vt vw ts ws h) ?_) (T3.ret ?_)
          · rintro a w ⟨hF, hq, hW⟩
            exact ⟨by have := hq.symm; simp only [decide_eq_true_eq] at this; omega, hW, hF.tail⟩
          · rintro a w ⟨hp, hW, hF⟩
            exact ⟨hW, by rw [we_large hne hp]; exact hF⟩
        · rintro a w ⟨hF, hq, hW⟩
          exact ⟨⟨hne, by have := hq.symm; simp only [decide_eq_false_iff_not] at this; omega⟩, hW, hF.tail⟩
      · rintro a w ⟨hF, hq, hW⟩
        exact ⟨by have := hq.symm; simp only [decide_eq_false_iff_not] at this; omega, hW, hF.tail⟩
  refine T3.seq (s := (sel [1, 1, 0] cwP)) (c := (sel [1, 1, 1] cwP)) (T3.seq (s := (sel [1, 1, 0, 0] cwP)) (c := (sel [1, 1, 0, 1] cwP)) (cp5 w0 vt vw ts ws h) (cptloop w0 vt vw ts ws h hok)) ?_
  refine T3.seq (s := (sel [1, 1, 1, 0] cwP)) (c := (sel [1, 1, 1, 1] cwP)) (S := fun a w => WOk2 ts ws ∧ (IsW w0 w ∧ Fr 47 [(0, vt), (1, vw)] a)) ?_ (T3.pure fun hfx => ?_)
  · refine T3.test (s := (sel [1, 1, 1, 0, 0] cwP)) (x := (sel [1, 1, 1, 0, 1, 2] cwP)) (y := .skip) (C := fun q => ((NoErr (teamAt ts) ts.length) ∧ q = decide ((ws.length : Int) ≠ ts.length))) (W := fun w => IsW w0 w) (by decide) (cp13 w0 vt vw ts ws h) ?_ (T3.skip ?_)
    · refine T3.seq (s := (sel [1, 1, 1, 0, 1, 2, 0] cwP)) (c := .ret) (t3_seqx (p := NoErr (teamAt ts) ts.length ∧ ws.length ≠ ts.length) (cp14 w0 vt vw ts ws h) ?_) (T3.ret ?_)
      · rintro a w ⟨hF, ⟨hp, hq⟩, hW⟩
        exact ⟨⟨hp, by have := hq.symm; simp only [decide_eq_true_eq] at this; omega⟩, hp, hW, hF.tail⟩
      · rintro a w ⟨hp, hW, hF⟩
        exact ⟨hW, by rw [we_form hok hp.1 hp.2]; exact hF⟩
    · rintro a w ⟨⟨hp, hq⟩, hW, hF⟩
      exact ⟨⟨hp, by have := hq.symm; simp only [decide_eq_false_iff_not] at this; omega⟩, hW, hF⟩
  refine T3.seq (s := (sel [1, 1, 1, 1, 0] cwP)) (c := (sel [1, 1, 1, 1, 1] cwP)) (T3.seq (s := (sel [1, 1, 1, 1, 0, 0] cwP)) (c := (sel [1, 1, 1, 1, 0, 1] cwP)) (cp15 w0 vt vw ts ws h) (cpwloop w0 vt vw ts ws h hok hfx)) ?_
  refine T3.seq (s := (sel [1, 1, 1, 1, 1, 0] cwP)) (c := .ret) (cp21 w0 vt vw ts ws h) (T3.ret ?_)
  rintro a w ⟨hp, hW, hF⟩
  exact ⟨hW, by rw [we_last hok hfx.1 hfx.2, firstErr_none hp]; exact hF⟩

set_option maxRecDepth 100000 in
set_option maxHeartbeats 1000000 in
theorem weights_prog (w0 : World) (vt vw : Value) (ts : List ByteArray) (ws : List Int) (h : WH w0 vt vw ts ws) : Calls Try.prog 22 #[vt, vw] w0 fun e w' => e = .returned (.int .i64 (weightsE ts ws)) ∧ w0 = w' := by
  have hall := cpall w0 vt vw ts ws h
  go_enter Try.func22, Try.ntmps22
  refine T3.done (s := cwP) hall ⟨rfl, Fr.of _ rfl ⟨rfl, rfl, trivial⟩⟩ ?_
  rintro a w ⟨hw, fr, rfl, q4, _⟩
  obtain rfl : w = w0 := hw
  rw [fr_cwP, show fr 4 = _ from q4]
  go_ret
  exact ⟨rfl, rfl⟩

noncomputable def cwR : Code := (Try.f15.body).getD .skip
set_option maxRecDepth 100000 in
theorem fr_cwR (f : Nat → Value) : frame 48 f = ⟨#[f 0, f 1, f 2, f 3, f 4, f 5, f 6, f 7, f 8, f 9, f 10, f 11, f 12, f 13, f 14, f 15, f 16, f 17, f 18, f 19, f 20, f 21, f 22, f 23, f 24, f 25, f 26, f 27, f 28, f 29, f 30, f 31, f 32, f 33, f 34, f 35, f 36, f 37, f 38, f 39, f 40, f 41, f 42, f 43, f 44, f 45, f 46, f 47], []⟩ := by rfl
set_option maxRecDepth 100000 in
set_option maxHeartbeats 1000000 in
theorem cr0 (w0 : World) (vt vw : Value) (ts : List ByteArray) (ws : List Int) (h : WH w0 vt vw ts ws) : T3 Try.prog (fun a w => (IsW w0 w) ∧ Fr 48 [(0, vt), (1, vw)] a) (sel [0] cwR) (fun a w => (IsW w0 w) ∧ Fr 48 [(0, vt), (1, vw)] a) No 9 (fun a w => IsW w0 w ∧ Fr 48 [(4, .int .i64 (weightsE ts ws))] a) := by
  refine T3.leaf ?_
  rintro Q JS JX JT K hS hK hX hE hT hR a w ⟨hW, ⟨fr, rfl, q0, q1, _⟩⟩
  obtain ⟨p1, c1, hv1⟩ := h.t.shape
  subst hv1
  obtain ⟨p2, c2, hv2⟩ := h.w.shape
  subst hv2
  rw [fr_cwR, show fr 0 = _ from q0, show fr 1 = _ from q1]
  clear q0 q1
  conv => arg 2; whnf
  go_wp2_with fail
  refine Met.intro (hS _ _ ?_)
  exact ⟨hW, Fr.of _ rfl ⟨rfl, rfl, trivial⟩⟩

set_option maxRecDepth 100000 in
set_option maxHeartbeats 1000000 in
theorem cr1 (w0 : World) (vt vw : Value) (ts : List ByteArray) (ws : List Int) (h : WH w0 vt vw ts ws) : T3 Try.prog (fun a w => (IsW w0 w) ∧ Fr 48 [(0, vt), (1, vw)] a) (sel [1, 0, 4, 0] cwR) (fun a w => ∃ q, Fr 48 ((9, .bool q) :: [(0, vt), (1, vw)]) a ∧ ((q = decide ((ts.length : Int) = 0)) ∧ IsW w0 w)) No 9 (fun a w => IsW w0 w ∧ Fr 48 [(4, .int .i64 (weightsE ts ws))] a) := by
  refine T3.leaf ?_
  rintro Q JS JX JT K hS hK hX hE hT hR a w ⟨hW, ⟨fr, rfl, q0, q1, _⟩⟩
  obtain ⟨p1, c1, hv1⟩ := h.t.shape
  subst hv1
  obtain ⟨p2, c2, hv2⟩ := h.w.shape
  subst hv2
  rw [fr_cwR, show fr 0 = _ from q0, show fr 1 = _ from q1]
  clear q0 q1
  conv => arg 2; whnf
  go_wp2_with fail
  refine Met.intro (hS _ _ ?_)
  exact ⟨_, Fr.of _ rfl ⟨rfl, rfl, rfl, trivial⟩, rfl, hW⟩

set_option maxRecDepth 100000 in
set_option maxHeartbeats 1000000 in
theorem cr3 (w0 : World) (vt vw : Value) (ts : List ByteArray) (ws : List Int) (h : WH w0 vt vw ts ws) : T3 Try.prog (fun a w => (IsW w0 w) ∧ Fr 48 [(0, vt), (1, vw)] a) (sel [1, 0, 4, 1, 3, 0] cwR) (fun a w => ∃ q, Fr 48 ((13, .bool q) :: [(0, vt), (1, vw)]) a ∧ ((q = decide ((14 : Int) < ts.length)) ∧ IsW w0 w)) No 9 (fun a w => IsW w0 w ∧ Fr 48 [(4, .int .i64 (weightsE ts ws))] a) := by
  refine T3.leaf ?_
  rintro Q JS JX JT K hS hK hX hE hT hR a w ⟨hW, ⟨fr, rfl, q0, q1, _⟩⟩
  obtain ⟨p1, c1, hv1⟩ := h.t.shape
  subst hv1
  obtain ⟨p2, c2, hv2⟩ := h.w.shape
  subst hv2
  rw [fr_cwR, show fr 0 = _ from q0, show fr 1 = _ from q1]
  clear q0 q1
  conv => arg 2; whnf
  go_wp2_with fail
  refine Met.intro (hS _ _ ?_)
  exact ⟨_, Fr.of _ rfl ⟨rfl, rfl, rfl, trivial⟩, rfl, hW⟩

set_option maxRecDepth 100000 in
set_option maxHeartbeats 1000000 in
theorem cr2 (w0 : World) (vt vw : Value) (ts : List ByteArray) (ws : List Int) (h : WH w0 vt vw ts ws) : T3 Try.prog (fun a w => (IsW w0 w) ∧ Fr 48 [(0, vt), (1, vw)] a) (sel [1, 0, 4, 1, 2, 0] cwR) (fun a w => (IsW w0 w) ∧ Fr 48 [(4, .int .i64 8)] a) No 9 (fun a w => IsW w0 w ∧ Fr 48 [(4, .int .i64 (weightsE ts ws))] a) := by
  refine T3.leaf ?_
  rintro Q JS JX JT K hS hK hX hE hT hR a w ⟨hW, ⟨fr, rfl, q0, q1, _⟩⟩
  rw [fr_cwR, show fr 0 = _ from q0, show fr 1 = _ from q1]
  clear q0 q1
  conv => arg 2; whnf
  go_wp2_with fail
  refine Met.intro (hS _ _ ?_)
  exact ⟨hW, Fr.of _ rfl ⟨rfl, trivial⟩⟩

set_option maxRecDepth 100000 in
set_option maxHeartbeats 1000000 in
theorem cr4 (w0 : World) (vt vw : Value) (ts : List ByteArray) (ws : List Int) (h : WH w0 vt vw ts ws) : T3 Try.prog (fun a w => (IsW w0 w) ∧ Fr 48 [(0, vt), (1, vw)] a) (sel [1, 0, 4, 1, 3, 1, 2, 0] cwR) (fun a w => (IsW w0 w) ∧ Fr 48 [(4, .int .i64 2)] a) No 9 (fun a w => IsW w0 w ∧ Fr 48 [(4, .int .i64 (weightsE ts ws))] a) := by
  refine T3.leaf ?_
  rintro Q JS JX JT K hS hK hX hE hT hR a w ⟨hW, ⟨fr, rfl, q0, q1, _⟩⟩
  rw [fr_cwR, show fr 0 = _ from q0, show fr 1 = _ from q1]
  clear q0 q1
  conv => arg 2; whnf
  go_wp2_with fail
  refine Met.intro (hS _ _ ?_)
  exact ⟨hW, Fr.of _ rfl ⟨rfl, trivial⟩⟩

set_option maxRecDepth 100000 in
set_option maxHeartbeats 1000000 in
theorem cr5 (w0 : World) (vt vw : Value) (ts : List ByteArray) (ws : List Int) (h : WH w0 vt vw ts ws) : T3 Try.prog (fun a w => (IsW w0 w) ∧ Fr 48 [(0, vt), (1, vw)] a) (sel [1, 1, 0, 0] cwR) (fun a w => (0 ≤ (0 : Int) ∧ (0 : Int) ≤ ts.length) ∧ (NoErr (teamAt ts) 0) ∧ (IsW w0 w) ∧ Fr 48 [(0, vt), (1, vw), (17, vt), (18, .int .i64 ts.length), (19, .int .i64 0)] a) No 9 (fun a w => IsW w0 w ∧ Fr 48 [(4, .int .i64 (weightsE ts ws))] a) := by
  refine T3.leaf ?_
  rintro Q JS JX JT K hS hK hX hE hT hR a w ⟨hW, ⟨fr, rfl, q0, q1, _⟩⟩
  obtain ⟨p1, c1, hv1⟩ := h.t.shape
  subst hv1
  obtain ⟨p2, c2, hv2⟩ := h.w.shape
  subst hv2
  rw [fr_cwR, show fr 0 = _ from q0, show fr 1 = _ from q1]
  clear q0 q1
  conv => arg 2; whnf
  go_wp2_with fail
  refine Met.intro (hS _ _ ?_)
  exact ⟨⟨by omega, by omega⟩, NoErr.zero _, hW, Fr.of _ rfl ⟨rfl, rfl, rfl, rfl, rfl, trivial⟩⟩

set_option maxRecDepth 100000 in
set_option maxHeartbeats 1000000 in
theorem cr7 (w0 : World) (vt vw : Value) (ts : List ByteArray) (ws : List Int) (h : WH w0 vt vw ts ws) (k : Int) : T3 Try.prog (fun a w => ((0 ≤ k ∧ k < ts.length) ∧ (NoErr (teamAt ts) k)) ∧ (IsW w0 w) ∧ Fr 48 [(0, vt), (1, vw), (17, vt), (18, .int .i64 ts.length), (19, .int .i64 k)] a) (sel [1, 1, 0, 1, 4, 4, 1, 1, 0, 4, 0] cwR) (fun a w => ((0 ≤ k ∧ k < ts.length) ∧ (NoErr (teamAt ts) k)) ∧ (IsW w0 w) ∧ Fr 48 [(0, vt), (1, vw), (5, .int .i64 k), (6, .string (geta ts k)), (17, vt), (18, .int .i64 ts.length), (19, .int .i64 k)] a) No 9 (fun a w => IsW w0 w ∧ Fr 48 [(4, .int .i64 (weightsE ts ws))] a) := by
  refine T3.leaf ?_
  rintro Q JS JX JT K hS hK hX hE hT hR a w ⟨hpre, hW, ⟨fr, rfl, q0, q1, q17, q18, q19, _⟩⟩
  obtain ⟨hk0, hk1⟩ := hpre.1
  obtain ⟨_, hcs⟩ := h.t.els encSt_length (by decide)
  rcases hcs with ⟨rfl, h0⟩ | ⟨bz, off, cap, rfl, _, hbz, hnc, hcm, hcell⟩
  · omega
  have t0 := hcell k hk0 hk1 0 _ rfl
  rw [Nat.mul_one, Nat.add_zero] at t0
  clear hcell
  obtain rfl : w = w0 := hW
  rw [fr_cwR, show fr 0 = _ from q0, show fr 1 = _ from q1, show fr 17 = _ from q17, show fr 18 = _ from q18, show fr 19 = _ from q19]
  clear q0 q1 q17 q18 q19
  conv => arg 2; whnf
  go_wp2_with fail
  refine Met.intro (hS _ _ ?_)
  exact ⟨hpre, rfl, Fr.of _ rfl ⟨rfl, rfl, rfl, rfl, rfl, rfl, rfl, trivial⟩⟩

set_option maxRecDepth 100000 in
set_option maxHeartbeats 1000000 in
theorem cr8 (w0 : World) (vt vw : Value) (ts : List ByteArray) (ws : List Int) (h : WH w0 vt vw ts ws) (k : Int) : T3 Try.prog (fun a w => ((0 ≤ k ∧ k < ts.length) ∧ (NoErr (teamAt ts) k)) ∧ (IsW w0 w) ∧ Fr 48 [(0, vt), (1, vw), (5, .int .i64 k), (6, .string (geta ts k)), (17, vt), (18, .int .i64 ts.length), (19, .int .i64 k)] a) (sel [1, 1, 0, 1, 4, 4, 1, 1, 0, 4, 1, 0, 0] cwR) (fun a w => ∃ q, Fr 48 ((26, .bool q) :: [(0, vt), (1, vw), (5, .int .i64 k), (6, .string (geta ts k)), (17, vt), (18, .int .i64 ts.length), (19, .int .i64 k)]) a ∧ ((((0 ≤ k ∧ k < ts.length) ∧ (NoErr (teamAt ts) k)) ∧ q = !keyB (geta ts k)) ∧ IsW w0 w)) No 9 (fun a w => IsW w0 w ∧ Fr 48 [(4, .int .i64 (weightsE ts ws))] a) := by
  refine T3.leaf ?_
  rintro Q JS JX JT K hS hK hX hE hT hR a w ⟨hpre, hW, ⟨fr, rfl, q0, q1, q5, q6, q17, q18, q19, _⟩⟩
  have HK := Lib.hid (key_ref (geta ts k) w (h.z _ (geta_mem hpre.1.1 hpre.1.2)))
  generalize geta ts k = x at *
  generalize keyB x = q at *
  rw [fr_cwR, show fr 0 = _ from q0, show fr 1 = _ from q1, show fr 5 = _ from q5, show fr 6 = _ from q6, show fr 17 = _ from q17, show fr 18 = _ from q18, show fr 19 = _ from q19]
  clear q0 q1 q5 q6 q17 q18 q19
  conv => arg 2; whnf
  go_wp2_with fail
  refine HK.out.mono ?_
  rintro e w1 ⟨rfl, rfl⟩
  go_wp2_with fail
  refine Met.intro (hS _ _ ?_)
  exact ⟨_, Fr.of _ rfl ⟨rfl, rfl, rfl, rfl, rfl, rfl, rfl, rfl, trivial⟩, ⟨hpre, rfl⟩, hW⟩

set_option maxRecDepth 100000 in
set_option maxHeartbeats 1000000 in
theorem cr9 (w0 : World) (vt vw : Value) (ts : List ByteArray) (ws : List Int) (h : WH w0 vt vw ts ws) (k : Int) : T3 Try.prog (fun a w => ((0 ≤ k ∧ k < ts.length) ∧ (NoErr (teamAt ts) k)) ∧ (IsW w0 w) ∧ Fr 48 [(0, vt), (1, vw), (5, .int .i64 k), (6, .string (geta ts k)), (17, vt), (18, .int .i64 ts.length), (19, .int .i64 k)] a) (sel [1, 1, 0, 1, 4, 4, 1, 1, 0, 4, 1, 0, 1, 2, 0] cwR) (fun a w => (IsW w0 w) ∧ Fr 48 [(4, .int .i64 5)] a) No 9 (fun a w => IsW w0 w ∧ Fr 48 [(4, .int .i64 (weightsE ts ws))] a) := by
  refine T3.leaf ?_
  rintro Q JS JX JT K hS hK hX hE hT hR a w ⟨hpre, hW, ⟨fr, rfl, q0, q1, q5, q6, q17, q18, q19, _⟩⟩
  rw [fr_cwR, show fr 0 = _ from q0, show fr 1 = _ from q1, show fr 5 = _ from q5, show fr 6 = _ from q6, show fr 17 = _ from q17, show fr 18 = _ from q18, show fr 19 = _ from q19]
  clear q0 q1 q5 q6 q17 q18 q19
  conv => arg 2; whnf
  go_wp2_with fail
  refine Met.intro (hS _ _ ?_)
  exact ⟨hW, Fr.of _ rfl ⟨rfl, trivial⟩⟩

set_option maxRecDepth 100000 in
set_option maxHeartbeats 1000000 in
theorem cr10 (w0 : World) (vt vw : Value) (ts : List ByteArray) (ws : List Int) (h : WH w0 vt vw ts ws) (k : Int) : T3 Try.prog (fun a w => ((0 ≤ k ∧ k < ts.length) ∧ (NoErr (teamAt ts) k) ∧ keyB (geta ts k) = true) ∧ (IsW w0 w) ∧ Fr 48 [(0, vt), (1, vw), (5, .int .i64 k), (6, .string (geta ts k)), (17, vt), (18, .int .i64 ts.length), (19, .int .i64 k)] a) (sel [1, 1, 0, 1, 4, 4, 1, 1, 0, 4, 1, 1, 0] cwR) (fun a w => ∃ q, Fr 48 ((31, .bool q) :: [(0, vt), (1, vw), (5, .int .i64 k), (6, .string (geta ts k)), (17, vt), (18, .int .i64 ts.length), (19, .int .i64 k)]) a ∧ ((((0 ≤ k ∧ k < ts.length) ∧ (NoErr (teamAt ts) k) ∧ keyB (geta ts k) = true) ∧ q = hasTo ts k (geta ts k)) ∧ IsW w0 w)) No 9 (fun a w => IsW w0 w ∧ Fr 48 [(4, .int .i64 (weightsE ts ws))] a) := by
  refine T3.leaf ?_
  rintro Q JS JX JT K hS hK hX hE hT hR a w ⟨hpre, hW, ⟨fr, rfl, q0, q1, q5, q6, q17, q18, q19, _⟩⟩
  have HP := Lib.hid hpre
  obtain ⟨⟨hk0, hk1⟩, _⟩ := hpre
  obtain ⟨_, hcs⟩ := h.t.els encSt_length (by decide)
  rcases hcs with ⟨rfl, h0⟩ | ⟨bz, off, cap, rfl, _, hbz, hnc, hcm, hcell⟩
  · omega
  have HC := Lib.hid (contains_str _ k.toNat (ts.take k.toNat) (geta ts k) 0 w0 (Row.first encSt_length h.t rfl (by omega)))
  have hbq : (0 : Int) ≤ k ∧ k ≤ ts.length ∧ (ts.length : Int) ≤ cap := by omega
  clear hcell
  obtain rfl : w = w0 := hW
  have HE := Lib.hid (show hasS (ts.take k.toNat) (geta ts k) = hasTo ts k (geta ts k) from rfl)
  rw [HE.out] at HC
  generalize geta ts k = x at *
  generalize hasTo ts k x = q at *
  rw [fr_cwR, show fr 0 = _ from q0, show fr 1 = _ from q1, show fr 5 = _ from q5, show fr 6 = _ from q6, show fr 17 = _ from q17, show fr 18 = _ from q18, show fr 19 = _ from q19]
  clear q0 q1 q5 q6 q17 q18 q19
  conv => arg 2; whnf
  go_wp2_with fail
  refine HC.out.mono ?_
  rintro e w1 ⟨rfl, rfl⟩
  go_wp2_with fail
  have hpre := HP.out
  refine Met.intro (hS _ _ ?_)
  exact ⟨_, Fr.of _ rfl ⟨rfl, rfl, rfl, rfl, rfl, rfl, rfl, rfl, trivial⟩, ⟨hpre, rfl⟩, rfl⟩

set_option maxRecDepth 100000 in
set_option maxHeartbeats 1000000 in
theorem cr11 (w0 : World) (vt vw : Value) (ts : List ByteArray) (ws : List Int) (h : WH w0 vt vw ts ws) (k : Int) : T3 Try.prog (fun a w => ((0 ≤ k ∧ k < ts.length) ∧ (NoErr (teamAt ts) k) ∧ keyB (geta ts k) = true) ∧ (IsW w0 w) ∧ Fr 48 [(0, vt), (1, vw), (5, .int .i64 k), (6, .string (geta ts k)), (17, vt), (18, .int .i64 ts.length), (19, .int .i64 k)] a) (sel [1, 1, 0, 1, 4, 4, 1, 1, 0, 4, 1, 1, 1, 2, 0] cwR) (fun a w => (IsW w0 w) ∧ Fr 48 [(4, .int .i64 6)] a) No 9 (fun a w => IsW w0 w ∧ Fr 48 [(4, .int .i64 (weightsE ts ws))] a) := by
  refine T3.leaf ?_
  rintro Q JS JX JT K hS hK hX hE hT hR a w ⟨hpre, hW, ⟨fr, rfl, q0, q1, q5, q6, q17, q18, q19, _⟩⟩
  rw [fr_cwR, show fr 0 = _ from q0, show fr 1 = _ from q1, show fr 5 = _ from q5, show fr 6 = _ from q6, show fr 17 = _ from q17, show fr 18 = _ from q18, show fr 19 = _ from q19]
  clear q0 q1 q5 q6 q17 q18 q19
  conv => arg 2; whnf
  go_wp2_with fail
  refine Met.intro (hS _ _ ?_)
  exact ⟨hW, Fr.of _ rfl ⟨rfl, trivial⟩⟩

set_option maxRecDepth 100000 in
set_option maxHeartbeats 1000000 in
theorem crb (w0 : World) (vt vw : Value) (ts : List ByteArray) (ws : List Int) (h : WH w0 vt vw ts ws) (k : Int) (hok : WOk1 ts) : T3 Try.prog (fun a w => ((0 ≤ k ∧ k < ts.length) ∧ (NoErr (teamAt ts) k)) ∧ (IsW w0 w) ∧ Fr 48 [(0, vt), (1, vw), (17, vt), (18, .int .i64 ts.length), (19, .int .i64 k)] a) (sel [1, 1, 0, 1, 4, 4, 1, 1, 0] cwR) (fun a w => ((0 ≤ k ∧ k < ts.length) ∧ (NoErr (teamAt ts) (k + 1))) ∧ (IsW w0 w) ∧ Fr 48 [(0, vt), (1, vw), (17, vt), (18, .int .i64 ts.length), (19, .int .i64 k)] a) No 9 (fun a w => IsW w0 w ∧ Fr 48 [(4, .int .i64 (weightsE ts ws))] a) := by
  refine T3.block (id' := 2) (c := (sel [1, 1, 0, 1, 4, 4, 1, 1, 0, 4] cwR)) (by decide) ?_
  refine T3.seq (s := (sel [1, 1, 0, 1, 4, 4, 1, 1, 0, 4, 0] cwR)) (c := (sel [1, 1, 0, 1, 4, 4, 1, 1, 0, 4, 1] cwR)) (cr7 w0 vt vw ts ws h k) ?_
  refine T3.seq (s := (sel [1, 1, 0, 1, 4, 4, 1, 1, 0, 4, 1, 0] cwR)) (c := (sel [1, 1, 0, 1, 4, 4, 1, 1, 0, 4, 1, 1] cwR)) (S := (fun a w => ((0 ≤ k ∧ k < ts.length) ∧ (NoErr (teamAt ts) k) ∧ keyB (geta ts k) = true) ∧ (IsW w0 w) ∧ Fr 48 [(0, vt), (1, vw), (5, .int .i64 k), (6, .string (geta ts k)), (17, vt), (18, .int .i64 ts.length), (19, .int .i64 k)] a)) ?_ ?_
  · refine T3.test (s := (sel [1, 1, 0, 1, 4, 4, 1, 1, 0, 4, 1, 0, 0] cwR)) (x := (sel [1, 1, 0, 1, 4, 4, 1, 1, 0, 4, 1, 0, 1, 2] cwR)) (y := .skip) (C := fun q => (((0 ≤ k ∧ k < ts.length) ∧ (NoErr (teamAt ts) k)) ∧ q = !keyB (geta ts k))) (W := fun w => IsW w0 w) (by decide) (cr8 w0 vt vw ts ws h k) ?_ (T3.skip ?_)
    · refine T3.seq (s := (sel [1, 1, 0, 1, 4, 4, 1, 1, 0, 4, 1, 0, 1, 2, 0] cwR)) (c := .ret) (t3_seqx (p := ((0 ≤ k ∧ k < ts.length) ∧ (NoErr (teamAt ts) k)) ∧ keyB (geta ts k) = false) (cr9 w0 vt vw ts ws h k) ?_) (T3.ret ?_)
      · rintro a w ⟨hF, ⟨hp, hq⟩, hW⟩
        exact ⟨⟨hp, by simpa using hq.symm⟩, hp, hW, hF.tail⟩
      · rintro a w ⟨⟨hp, hkb⟩, hW, hF⟩
        have e : teamAt ts k = 5 := by unfold teamAt; rw [if_pos hkb]
        exact ⟨hW, by rw [we_team hok hp.1.1 hp.1.2 hp.2 (by rw [e]; decide), e]; exact hF⟩
    · rintro a w ⟨⟨hp, hq⟩, hW, hF⟩
      exact ⟨⟨hp.1, hp.2, by simpa using hq.symm⟩, hW, hF⟩
  · refine T3.test (s := (sel [1, 1, 0, 1, 4, 4, 1, 1, 0, 4, 1, 1, 0] cwR)) (x := (sel [1, 1, 0, 1, 4, 4, 1, 1, 0, 4, 1, 1, 1, 2] cwR)) (y := .skip) (C := fun q => (((0 ≤ k ∧ k < ts.length) ∧ (NoErr (teamAt ts) k) ∧ keyB (geta ts k) = true) ∧ q = hasTo ts k (geta ts k))) (W := fun w => IsW w0 w) (by decide) ((cr10 w0 vt vw ts ws h k).pre (fun a w q => ⟨⟨q.1.1, q.1.2.1, q.1.2.2⟩, q.2⟩)) ?_ (T3.skip ?_)
    · refine T3.seq (s := (sel [1, 1, 0, 1, 4, 4, 1, 1, 0, 4, 1, 1, 1, 2, 0] cwR)) (c := .ret) (t3_seqx (p := ((0 ≤ k ∧ k < ts.length) ∧ (NoErr (teamAt ts) k) ∧ keyB (geta ts k) = true) ∧ hasTo ts k (geta ts k) = true) (cr11 w0 vt vw ts ws h k) ?_) (T3.ret ?_)
      · rintro a w ⟨hF, ⟨hp, hq⟩, hW⟩
        exact ⟨⟨hp, hq.symm⟩, hp, hW, hF.tail⟩
      · rintro a w ⟨⟨hp, hh⟩, hW, hF⟩
        have e : teamAt ts k = 6 := by unfold teamAt; rw [if_neg (by rw [hp.2.2]; decide), if_pos hh]
        exact ⟨hW, by rw [we_team hok hp.1.1 hp.1.2 hp.2.1 (by rw [e]; decide), e]; exact hF⟩
    · rintro a w ⟨⟨hp, hq⟩, hW, hF⟩
      refine ⟨⟨hp.1, hp.2.1.step ?_⟩, hW, hF.sub (by simp)⟩
      unfold teamAt
      rw [if_neg (by rw [hp.2.2]; decide), if_neg (by rw [← hq]; decide)]

def crtI (w0 : World) (vt vw : Value) (ts : List ByteArray) (ws : List Int) (h : WH w0 vt vw ts ws) (hok : WOk1 ts) (k : Int) (a : Act) (w : World) : Prop := (0 ≤ k ∧ k ≤ ts.length) ∧ (NoErr (teamAt ts) k) ∧ (IsW w0 w) ∧ Fr 48 [(0, vt), (1, vw), (17, vt), (18, .int .i64 ts.length), (19, .int .i64 k)] a
set_option maxRecDepth 100000 in
set_option maxHeartbeats 1000000 in
theorem crtt (w0 : World) (vt vw : Value) (ts : List ByteArray) (ws : List Int) (h : WH w0 vt vw ts ws) (hok : WOk1 ts) (k : Int) : T3 Try.prog (fun a w => crtI w0 vt vw ts ws h hok k a w) (sel [1, 1, 0, 1, 4, 4, 0] cwR) (fun a w => ∃ q, Fr 48 ((20, .bool q) :: [(19, .int .i64 k)]) a ∧ ((q = true ↔ k < ts.length) ∧ crtI w0 vt vw ts ws h hok k a w)) No 9 (fun a w => IsW w0 w ∧ Fr 48 [(4, .int .i64 (weightsE ts ws))] a) := by
  refine T3.leaf ?_
  rintro Q JS JX JT K hS hK hX hE hT hR a w ⟨hk, hpre, hW, ⟨fr, rfl, q0, q1, q17, q18, q19, _⟩⟩
  have hl := h.tn
  rw [fr_cwR, show fr 0 = _ from q0, show fr 1 = _ from q1, show fr 17 = _ from q17, show fr 18 = _ from q18, show fr 19 = _ from q19]
  clear q0 q1 q17 q18 q19
  conv => arg 2; whnf
  by_cases hlt : k < ts.length
  · go_wp2_with fail
    refine Met.intro (hS _ _ ?_)
    exact ⟨true, Fr.of _ rfl ⟨rfl, rfl, trivial⟩, ⟨fun _ => hlt, fun _ => rfl⟩, hk, hpre, hW, Fr.of _ rfl ⟨rfl, rfl, rfl, rfl, rfl, trivial⟩⟩
  · have hpb : decide (k < (ts.length : Int)) = false := by simp; omega
    go_wp2_with fail
    refine Met.intro (hS _ _ ?_)
    exact ⟨false, Fr.of _ rfl ⟨rfl, rfl, trivial⟩, ⟨(fun h => by cases h), fun h => absurd h (by omega)⟩, hk, hpre, hW, Fr.of _ rfl ⟨rfl, rfl, rfl, rfl, rfl, trivial⟩⟩

set_option maxRecDepth 100000 in
set_option maxHeartbeats 1000000 in
theorem crtn (w0 : World) (vt vw : Value) (ts : List ByteArray) (ws : List Int) (h : WH w0 vt vw ts ws) (hok : WOk1 ts) (k : Int) : T3 Try.prog (fun a w => (0 ≤ k ∧ k < ts.length) ∧ (NoErr (teamAt ts) (k + 1)) ∧ (IsW w0 w) ∧ Fr 48 [(0, vt), (1, vw), (17, vt), (18, .int .i64 ts.length), (19, .int .i64 k)] a) (sel [1, 1, 0, 1, 4, 4, 1, 1, 1] cwR) (fun a w => crtI w0 vt vw ts ws h hok (k + 1) a w) No 9 (fun a w => IsW w0 w ∧ Fr 48 [(4, .int .i64 (weightsE ts ws))] a) := by
  refine T3.leaf ?_
  rintro Q JS JX JT K hS hK hX hE hT hR a w ⟨hk, hpre, hW, ⟨fr, rfl, q0, q1, q17, q18, q19, _⟩⟩
  obtain ⟨hk0, hk1⟩ := hk
  have hl := h.tn
  rw [fr_cwR, show fr 0 = _ from q0, show fr 1 = _ from q1, show fr 17 = _ from q17, show fr 18 = _ from q18, show fr 19 = _ from q19]
  clear q0 q1 q17 q18 q19
  conv => arg 2; whnf
  go_wp2_with fail
  refine Met.intro (hS _ _ ?_)
  exact ⟨⟨by omega, by omega⟩, hpre, hW, Fr.of _ rfl ⟨rfl, rfl, rfl, rfl, rfl, trivial⟩⟩

set_option maxRecDepth 100000 in
set_option maxHeartbeats 1000000 in
theorem crtloop (w0 : World) (vt vw : Value) (ts : List ByteArray) (ws : List Int) (h : WH w0 vt vw ts ws) (hok : WOk1 ts) : T3 Try.prog (fun a w => crtI w0 vt vw ts ws h hok 0 a w) (sel [1, 1, 0, 1] cwR) (fun a w => (NoErr (teamAt ts) ts.length) ∧ (IsW w0 w) ∧ Fr 48 [(0, vt), (1, vw)] a) No 9 (fun a w => IsW w0 w ∧ Fr 48 [(4, .int .i64 (weightsE ts ws))] a) := by
  refine T3.loop (c := (sel [1, 1, 0, 1, 4, 4] cwR)) (fun n a w => ∃ k : Int, (n : Int) = ts.length - k ∧ crtI w0 vt vw ts ws h hok k a w) (fun a w h => ⟨(ts.length : Int).toNat, 0, by have := h.1.2; omega, h⟩) (fun n => T3.ex fun k => T3.pure fun hn => ?_)
  refine T3.seq (s := (sel [1, 1, 0, 1, 4, 4, 0] cwR)) (c := (sel [1, 1, 0, 1, 4, 4, 1] cwR)) ((crtt w0 vt vw ts ws h hok k).noX) ?_
  refine T3.seq (s := (sel [1, 1, 0, 1, 4, 4, 1, 0] cwR)) (c := (sel [1, 1, 0, 1, 4, 4, 1, 1] cwR)) (S := fun a w => (0 ≤ k ∧ k < ts.length) ∧ (NoErr (teamAt ts) k) ∧ (IsW w0 w) ∧ Fr 48 [(0, vt), (1, vw), (17, vt), (18, .int .i64 ts.length), (19, .int .i64 k)] a) ?_ (T3.seq (s := (sel [1, 1, 0, 1, 4, 4, 1, 1, 0] cwR)) (c := (sel [1, 1, 0, 1, 4, 4, 1, 1, 1] cwR)) (S := fun a w => (0 ≤ k ∧ k < ts.length) ∧ (NoErr (teamAt ts) (k + 1)) ∧ (IsW w0 w) ∧ Fr 48 [(0, vt), (1, vw), (17, vt), (18, .int .i64 ts.length), (19, .int .i64 k)] a) (T3.noX (T3.mono (R' := fun a w => (0 ≤ k ∧ k < ts.length) ∧ (NoErr (teamAt ts) k) ∧ (IsW w0 w) ∧ Fr 48 [(0, vt), (1, vw), (17, vt), (18, .int .i64 ts.length), (19, .int .i64 k)] a) (S' := fun a w => (0 ≤ k ∧ k < ts.length) ∧ (NoErr (teamAt ts) (k + 1)) ∧ (IsW w0 w) ∧ Fr 48 [(0, vt), (1, vw), (17, vt), (18, .int .i64 ts.length), (19, .int .i64 k)] a) (crb w0 vt vw ts ws h k hok) (fun a w ⟨hk, hp, hI⟩ => ⟨⟨hk, hp⟩, hI⟩) (fun a w ⟨⟨hk, hp⟩, hI⟩ => ⟨hk, hp, hI⟩) (fun _ _ q => q) (fun _ _ q => q))) ?_)
  · refine T3.cond (o := .tmp 20) (x := .skip) (y := .exit 1) (fun a w => k < ts.length ∧ crtI w0 vt vw ts ws h hok k a w) (fun a w => ¬ k < ts.length ∧ crtI w0 vt vw ts ws h hok k a w) ?_ (T3.skip ?_) (T3.exit ?_)
    · rintro a w ⟨q, hF, hq, hI⟩
      have he := hF.eval 20 (by decide) (v := .bool q) (by simp)
      cases q
      · exact .inr ⟨he, (fun h => by have := hq.2 h; cases this), hI⟩
      · exact .inl ⟨he, hq.1 rfl, hI⟩
    · rintro a w ⟨hlt, hk, hI⟩
      exact ⟨⟨hk.1, hlt⟩, hI⟩
    · rintro a w ⟨hlt, hk, hI⟩
      obtain rfl : k = ts.length := by omega
      exact ⟨hI.1, hI.2.1, hI.2.2.sub (by simp)⟩
  · intro a w hx
    have hk := hx.1
    exact (((crtn w0 vt vw ts ws h hok k).noX).post (fun a w q => ⟨n - 1, by omega, k + 1, by omega, q⟩)) a w hx
set_option maxRecDepth 100000 in
set_option maxHeartbeats 1000000 in
theorem cr13 (w0 : World) (vt vw : Value) (ts : List ByteArray) (ws : List Int) (h : WH w0 vt vw ts ws) : T3 Try.prog (fun a w => (NoErr (teamAt ts) ts.length) ∧ (IsW w0 w) ∧ Fr 48 [(0, vt), (1, vw)] a) (sel [1, 1, 1, 0, 0] cwR) (fun a w => ∃ q, Fr 48 ((37, .bool q) :: [(0, vt), (1, vw)]) a ∧ (((NoErr (teamAt ts) ts.length) ∧ q = decide ((ws.length : Int) ≠ ts.length)) ∧ IsW w0 w)) No 9 (fun a w => IsW w0 w ∧ Fr 48 [(4, .int .i64 (weightsE ts ws))] a) := by
  refine T3.leaf ?_
  rintro Q JS JX JT K hS hK hX hE hT hR a w ⟨hpre, hW, ⟨fr, rfl, q0, q1, _⟩⟩
  obtain ⟨p1, c1, hv1⟩ := h.t.shape
  subst hv1
  obtain ⟨p2, c2, hv2⟩ := h.w.shape
  subst hv2
  have hpp := Lib.hid hpre
  clear hpre
  have hb1 : ((ws.length : Int) != ts.length) = decide ((ws.length : Int) ≠ ts.length) := by by_cases hq : ((ws.length : Int) = ts.length) <;> simp [hq]
  generalize decide ((ws.length : Int) ≠ ts.length) = q at *
  rw [fr_cwR, show fr 0 = _ from q0, show fr 1 = _ from q1]
  clear q0 q1
  conv => arg 2; whnf
  go_wp2_with fail
  have hpre := hpp.out
  refine Met.intro (hS _ _ ?_)
  exact ⟨_, Fr.of _ rfl ⟨rfl, rfl, rfl, trivial⟩, ⟨hpre, rfl⟩, hW⟩

set_option maxRecDepth 100000 in
set_option maxHeartbeats 1000000 in
theorem cr14 (w0 : World) (vt vw : Value) (ts : List ByteArray) (ws : List Int) (h : WH w0 vt vw ts ws) : T3 Try.prog (fun a w => (NoErr (teamAt ts) ts.length) ∧ (IsW w0 w) ∧ Fr 48 [(0, vt), (1, vw)] a) (sel [1, 1, 1, 0, 1, 2, 0] cwR) (fun a w => (IsW w0 w) ∧ Fr 48 [(4, .int .i64 3)] a) No 9 (fun a w => IsW w0 w ∧ Fr 48 [(4, .int .i64 (weightsE ts ws))] a) := by
  refine T3.leaf ?_
  rintro Q JS JX JT K hS hK hX hE hT hR a w ⟨hpre, hW, ⟨fr, rfl, q0, q1, _⟩⟩
  rw [fr_cwR, show fr 0 = _ from q0, show fr 1 = _ from q1]
  clear q0 q1
  conv => arg 2; whnf
  go_wp2_with fail
  refine Met.intro (hS _ _ ?_)
  exact ⟨hW, Fr.of _ rfl ⟨rfl, trivial⟩⟩

set_option maxRecDepth 100000 in
set_option maxHeartbeats 1000000 in
theorem cr15 (w0 : World) (vt vw : Value) (ts : List ByteArray) (ws : List Int) (h : WH w0 vt vw ts ws) : T3 Try.prog (fun a w => (IsW w0 w) ∧ Fr 48 [(0, vt), (1, vw)] a) (sel [1, 1, 1, 1, 0, 0] cwR) (fun a w => (0 ≤ (0 : Int) ∧ (0 : Int) ≤ ws.length) ∧ (NoErr (wgtAt ws) 0) ∧ (IsW w0 w) ∧ Fr 48 [(38, vw), (39, .int .i64 ws.length), (40, .int .i64 0)] a) No 9 (fun a w => IsW w0 w ∧ Fr 48 [(4, .int .i64 (weightsE ts ws))] a) := by
  refine T3.leaf ?_
  rintro Q JS JX JT K hS hK hX hE hT hR a w ⟨hW, ⟨fr, rfl, q0, q1, _⟩⟩
  obtain ⟨p1, c1, hv1⟩ := h.t.shape
  subst hv1
  obtain ⟨p2, c2, hv2⟩ := h.w.shape
  subst hv2
  rw [fr_cwR, show fr 0 = _ from q0, show fr 1 = _ from q1]
  clear q0 q1
  conv => arg 2; whnf
  go_wp2_with fail
  refine Met.intro (hS _ _ ?_)
  exact ⟨⟨by omega, by omega⟩, NoErr.zero _, hW, Fr.of _ rfl ⟨rfl, rfl, rfl, trivial⟩⟩

set_option maxRecDepth 100000 in
set_option maxHeartbeats 1000000 in
theorem cr17 (w0 : World) (vt vw : Value) (ts : List ByteArray) (ws : List Int) (h : WH w0 vt vw ts ws) (k : Int) : T3 Try.prog (fun a w => ((0 ≤ k ∧ k < ws.length) ∧ (NoErr (wgtAt ws) k)) ∧ (IsW w0 w) ∧ Fr 48 [(38, vw), (39, .int .i64 ws.length), (40, .int .i64 k)] a) (sel [1, 1, 1, 1, 0, 1, 4, 4, 1, 1, 0, 4, 0] cwR) (fun a w => ((0 ≤ k ∧ k < ws.length) ∧ (NoErr (wgtAt ws) k)) ∧ (IsW w0 w) ∧ Fr 48 [(8, .int .i64 (geti ws k)), (38, vw), (39, .int .i64 ws.length), (40, .int .i64 k)] a) No 9 (fun a w => IsW w0 w ∧ Fr 48 [(4, .int .i64 (weightsE ts ws))] a) := by
  refine T3.leaf ?_
  rintro Q JS JX JT K hS hK hX hE hT hR a w ⟨hpre, hW, ⟨fr, rfl, q38, q39, q40, _⟩⟩
  obtain ⟨hk0, hk1⟩ := hpre.1
  obtain ⟨_, hcs⟩ := h.w.ints
  rcases hcs with ⟨rfl, h0⟩ | ⟨bz, off, cap, rfl, _, hbz, hnc, hcm, hcell⟩
  · omega
  have t0 := hcell k hk0 hk1
  clear hcell
  obtain rfl : w = w0 := hW
  rw [fr_cwR, show fr 38 = _ from q38, show fr 39 = _ from q39, show fr 40 = _ from q40]
  clear q38 q39 q40
  conv => arg 2; whnf
  go_wp2_with fail
  refine Met.intro (hS _ _ ?_)
  exact ⟨hpre, rfl, Fr.of _ rfl ⟨rfl, rfl, rfl, rfl, trivial⟩⟩

set_option maxRecDepth 100000 in
set_option maxHeartbeats 1000000 in
theorem cr18 (w0 : World) (vt vw : Value) (ts : List ByteArray) (ws : List Int) (h : WH w0 vt vw ts ws) (k : Int) : T3 Try.prog (fun a w => ((0 ≤ k ∧ k < ws.length) ∧ (NoErr (wgtAt ws) k)) ∧ (IsW w0 w) ∧ Fr 48 [(8, .int .i64 (geti ws k)), (38, vw), (39, .int .i64 ws.length), (40, .int .i64 k)] a) (sel [1, 1, 1, 1, 0, 1, 4, 4, 1, 1, 0, 4, 1, 0] cwR) (fun a w => ∃ q, Fr 48 ((46, .bool q) :: [(8, .int .i64 (geti ws k)), (38, vw), (39, .int .i64 ws.length), (40, .int .i64 k)]) a ∧ ((((0 ≤ k ∧ k < ws.length) ∧ (NoErr (wgtAt ws) k)) ∧ q = outB (geti ws k) 1 1000) ∧ IsW w0 w)) No 9 (fun a w => IsW w0 w ∧ Fr 48 [(4, .int .i64 (weightsE ts ws))] a) := by
  refine T3.leaf ?_
  rintro Q JS JX JT K hS hK hX hE hT hR a w ⟨hpre, hW, ⟨fr, rfl, q8, q38, q39, q40, _⟩⟩
  have HK := Lib.hid (in_any (geti ws k) 1 1000 w)
  generalize geti ws k = x at *
  generalize outB x 1 1000 = q at *
  rw [fr_cwR, show fr 8 = _ from q8, show fr 38 = _ from q38, show fr 39 = _ from q39, show fr 40 = _ from q40]
  clear q8 q38 q39 q40
  conv => arg 2; whnf
  go_wp2_with fail
  refine HK.out.mono ?_
  rintro e w1 ⟨rfl, rfl⟩
  have hqq : (!!q) = q := Bool.not_not q
  go_wp2_with fail
  refine Met.intro (hS _ _ ?_)
  exact ⟨_, Fr.of _ rfl ⟨rfl, rfl, rfl, rfl, rfl, trivial⟩, ⟨hpre, rfl⟩, hW⟩

set_option maxRecDepth 100000 in
set_option maxHeartbeats 1000000 in
theorem cr19 (w0 : World) (vt vw : Value) (ts : List ByteArray) (ws : List Int) (h : WH w0 vt vw ts ws) (k : Int) : T3 Try.prog (fun a w => ((0 ≤ k ∧ k < ws.length) ∧ (NoErr (wgtAt ws) k)) ∧ (IsW w0 w) ∧ Fr 48 [(8, .int .i64 (geti ws k)), (38, vw), (39, .int .i64 ws.length), (40, .int .i64 k)] a) (sel [1, 1, 1, 1, 0, 1, 4, 4, 1, 1, 0, 4, 1, 1, 2, 0] cwR) (fun a w => (IsW w0 w) ∧ Fr 48 [(4, .int .i64 1)] a) No 9 (fun a w => IsW w0 w ∧ Fr 48 [(4, .int .i64 (weightsE ts ws))] a) := by
  refine T3.leaf ?_
  rintro Q JS JX JT K hS hK hX hE hT hR a w ⟨hpre, hW, ⟨fr, rfl, q8, q38, q39, q40, _⟩⟩
  rw [fr_cwR, show fr 8 = _ from q8, show fr 38 = _ from q38, show fr 39 = _ from q39, show fr 40 = _ from q40]
  clear q8 q38 q39 q40
  conv => arg 2; whnf
  go_wp2_with fail
  refine Met.intro (hS _ _ ?_)
  exact ⟨hW, Fr.of _ rfl ⟨rfl, trivial⟩⟩

set_option maxRecDepth 100000 in
set_option maxHeartbeats 1000000 in
theorem crv (w0 : World) (vt vw : Value) (ts : List ByteArray) (ws : List Int) (h : WH w0 vt vw ts ws) (k : Int) (hok : WOk1 ts) (hfx : WOk2 ts ws) : T3 Try.prog (fun a w => ((0 ≤ k ∧ k < ws.length) ∧ (NoErr (wgtAt ws) k)) ∧ (IsW w0 w) ∧ Fr 48 [(38, vw), (39, .int .i64 ws.length), (40, .int .i64 k)] a) (sel [1, 1, 1, 1, 0, 1, 4, 4, 1, 1, 0] cwR) (fun a w => ((0 ≤ k ∧ k < ws.length) ∧ (NoErr (wgtAt ws) (k + 1))) ∧ (IsW w0 w) ∧ Fr 48 [(38, vw), (39, .int .i64 ws.length), (40, .int .i64 k)] a) No 9 (fun a w => IsW w0 w ∧ Fr 48 [(4, .int .i64 (weightsE ts ws))] a) := by
  refine T3.block (id' := 4) (c := (sel [1, 1, 1, 1, 0, 1, 4, 4, 1, 1, 0, 4] cwR)) (by decide) ?_
  refine T3.seq (s := (sel [1, 1, 1, 1, 0, 1, 4, 4, 1, 1, 0, 4, 0] cwR)) (c := (sel [1, 1, 1, 1, 0, 1, 4, 4, 1, 1, 0, 4, 1] cwR)) (cr17 w0 vt vw ts ws h k) ?_
  refine T3.test (s := (sel [1, 1, 1, 1, 0, 1, 4, 4, 1, 1, 0, 4, 1, 0] cwR)) (x := (sel [1, 1, 1, 1, 0, 1, 4, 4, 1, 1, 0, 4, 1, 1, 2] cwR)) (y := .skip) (C := fun q => (((0 ≤ k ∧ k < ws.length) ∧ (NoErr (wgtAt ws) k)) ∧ q = outB (geti ws k) 1 1000)) (W := fun w => IsW w0 w) (by decide) (cr18 w0 vt vw ts ws h k) ?_ (T3.skip ?_)
  · refine T3.seq (s := (sel [1, 1, 1, 1, 0, 1, 4, 4, 1, 1, 0, 4, 1, 1, 2, 0] cwR)) (c := .ret) (t3_seqx (p := ((0 ≤ k ∧ k < ws.length) ∧ (NoErr (wgtAt ws) k)) ∧ outB (geti ws k) 1 1000 = true) (cr19 w0 vt vw ts ws h k) ?_) (T3.ret ?_)
    · rintro a w ⟨hF, ⟨hp, hq⟩, hW⟩
      exact ⟨⟨hp, hq.symm⟩, hp, hW, hF.tail⟩
    · rintro a w ⟨⟨hp, hh⟩, hW, hF⟩
      have e : wgtAt ws k = 1 := by unfold wgtAt; rw [if_pos hh]
      exact ⟨hW, by rw [we_last hok hfx.1 hfx.2, firstErr_hit hp.2 hp.1.1 hp.1.2 (by rw [e]; decide), e]; exact hF⟩
  · rintro a w ⟨⟨hp, hq⟩, hW, hF⟩
    refine ⟨⟨hp.1, hp.2.step ?_⟩, hW, hF.sub (by simp)⟩
    unfold wgtAt
    rw [if_neg (by rw [← hq]; decide)]

def crwI (w0 : World) (vt vw : Value) (ts : List ByteArray) (ws : List Int) (h : WH w0 vt vw ts ws) (hok : WOk1 ts) (hfx : WOk2 ts ws) (k : Int) (a : Act) (w : World) : Prop := (0 ≤ k ∧ k ≤ ws.length) ∧ (NoErr (wgtAt ws) k) ∧ (IsW w0 w) ∧ Fr 48 [(38, vw), (39, .int .i64 ws.length), (40, .int .i64 k)] a
set_option maxRecDepth 100000 in
set_option maxHeartbeats 1000000 in
theorem crwt (w0 : World) (vt vw : Value) (ts : List ByteArray) (ws : List Int) (h : WH w0 vt vw ts ws) (hok : WOk1 ts) (hfx : WOk2 ts ws) (k : Int) : T3 Try.prog (fun a w => crwI w0 vt vw ts ws h hok hfx k a w) (sel [1, 1, 1, 1, 0, 1, 4, 4, 0] cwR) (fun a w => ∃ q, Fr 48 ((41, .bool q) :: [(40, .int .i64 k)]) a ∧ ((q = true ↔ k < ws.length) ∧ crwI w0 vt vw ts ws h hok hfx k a w)) No 9 (fun a w => IsW w0 w ∧ Fr 48 [(4, .int .i64 (weightsE ts ws))] a) := by
  refine T3.leaf ?_
  rintro Q JS JX JT K hS hK hX hE hT hR a w ⟨hk, hpre, hW, ⟨fr, rfl, q38, q39, q40, _⟩⟩
  have hl := h.wn
  rw [fr_cwR, show fr 38 = _ from q38, show fr 39 = _ from q39, show fr 40 = _ from q40]
  clear q38 q39 q40
  conv => arg 2; whnf
  by_cases hlt : k < ws.length
  · go_wp2_with fail
    refine Met.intro (hS _ _ ?_)
    exact ⟨true, Fr.of _ rfl ⟨rfl, rfl, trivial⟩, ⟨fun _ => hlt, fun _ => rfl⟩, hk, hpre, hW, Fr.of _ rfl ⟨rfl, rfl, rfl, trivial⟩⟩
  · have hpb : decide (k < (ws.length : Int)) = false := by simp; omega
    go_wp2_with fail
    refine Met.intro (hS _ _ ?_)
    exact ⟨false, Fr.of _ rfl ⟨rfl, rfl, trivial⟩, ⟨(fun h => by cases h), fun h => absurd h (by omega)⟩, hk, hpre, hW, Fr.of _ rfl ⟨rfl, rfl, rfl, trivial⟩⟩

set_option maxRecDepth 100000 in
set_option maxHeartbeats 1000000 in
theorem crwn (w0 : World) (vt vw : Value) (ts : List ByteArray) (ws : List Int) (h : WH w0 vt vw ts ws) (hok : WOk1 ts) (hfx : WOk2 ts ws) (k : Int) : T3 Try.prog (fun a w => (0 ≤ k ∧ k < ws.length) ∧ (NoErr (wgtAt ws) (k + 1)) ∧ (IsW w0 w) ∧ Fr 48 [(38, vw), (39, .int .i64 ws.length), (40, .int .i64 k)] a) (sel [1, 1, 1, 1, 0, 1, 4, 4, 1, 1, 1] cwR) (fun a w => crwI w0 vt vw ts ws h hok hfx (k + 1) a w) No 9 (fun a w => IsW w0 w ∧ Fr 48 [(4, .int .i64 (weightsE ts ws))] a) := by
  refine T3.leaf ?_
  rintro Q JS JX JT K hS hK hX hE hT hR a w ⟨hk, hpre, hW, ⟨fr, rfl, q38, q39, q40, _⟩⟩
  obtain ⟨hk0, hk1⟩ := hk
  have hl := h.wn
  rw [fr_cwR, show fr 38 = _ from q38, show fr 39 = _ from q39, show fr 40 = _ from q40]
  clear q38 q39 q40
  conv => arg 2; whnf
  go_wp2_with fail
  refine Met.intro (hS _ _ ?_)
  exact ⟨⟨by omega, by omega⟩, hpre, hW, Fr.of _ rfl ⟨rfl, rfl, rfl, trivial⟩⟩

set_option maxRecDepth 100000 in
set_option maxHeartbeats 1000000 in
theorem crwloop (w0 : World) (vt vw : Value) (ts : List ByteArray) (ws : List Int) (h : WH w0 vt vw ts ws) (hok : WOk1 ts) (hfx : WOk2 ts ws) : T3 Try.prog (fun a w => crwI w0 vt vw ts ws h hok hfx 0 a w) (sel [1, 1, 1, 1, 0, 1] cwR) (fun a w => (NoErr (wgtAt ws) ws.length) ∧ (IsW w0 w) ∧ Fr 48 [] a) No 9 (fun a w => IsW w0 w ∧ Fr 48 [(4, .int .i64 (weightsE ts ws))] a) := by
  refine T3.loop (c := (sel [1, 1, 1, 1, 0, 1, 4, 4] cwR)) (fun n a w => ∃ k : Int, (n : Int) = ws.length - k ∧ crwI w0 vt vw ts ws h hok hfx k a w) (fun a w h => ⟨(ws.length : Int).toNat, 0, by have := h.1.2; omega, h⟩) (fun n => T3.ex fun k => T3.pure fun hn => ?_)
  refine T3.seq (s := (sel [1, 1, 1, 1, 0, 1, 4, 4, 0] cwR)) (c := (sel [1, 1, 1, 1, 0, 1, 4, 4, 1] cwR)) ((crwt w0 vt vw ts ws h hok hfx k).noX) ?_
  refine T3.seq (s := (sel [1, 1, 1, 1, 0, 1, 4, 4, 1, 0] cwR)) (c := (sel [1, 1, 1, 1, 0, 1, 4, 4, 1, 1] cwR)) (S := fun a w => (0 ≤ k ∧ k < ws.length) ∧ (NoErr (wgtAt ws) k) ∧ (IsW w0 w) ∧ Fr 48 [(38, vw), (39, .int .i64 ws.length), (40, .int .i64 k)] a) ?_ (T3.seq (s := (sel [1, 1, 1, 1, 0, 1, 4, 4, 1, 1, 0] cwR)) (c := (sel [1, 1, 1, 1, 0, 1, 4, 4, 1, 1, 1] cwR)) (S := fun a w => (0 ≤ k ∧ k < ws.length) ∧ (NoErr (wgtAt ws) (k + 1)) ∧ (IsW w0 w) ∧ Fr 48 [(38, vw), (39, .int .i64 ws.length), (40, .int .i64 k)] a) (T3.noX (T3.mono (R' := fun a w => (0 ≤ k ∧ k < ws.length) ∧ (NoErr (wgtAt ws) k) ∧ (IsW w0 w) ∧ Fr 48 [(38, vw), (39, .int .i64 ws.length), (40, .int .i64 k)] a) (S' := fun a w => (0 ≤ k ∧ k < ws.length) ∧ (NoErr (wgtAt ws) (k + 1)) ∧ (IsW w0 w) ∧ Fr 48 [(38, vw), (39, .int .i64 ws.length), (40, .int .i64 k)] a) (crv w0 vt vw ts ws h k hok hfx) (fun a w ⟨hk, hp, hI⟩ => ⟨⟨hk, hp⟩, hI⟩) (fun a w ⟨⟨hk, hp⟩, hI⟩ => ⟨hk, hp, hI⟩) (fun _ _ q => q) (fun _ _ q => q))) ?_)
  · refine T3.cond (o := .tmp 41) (x := .skip) (y := .exit 3) (fun a w => k < ws.length ∧ crwI w0 vt vw ts ws h hok hfx k a w) (fun a w => ¬ k < ws.length ∧ crwI w0 vt vw ts ws h hok hfx k a w) ?_ (T3.skip ?_) (T3.exit ?_)
    · rintro a w ⟨q, hF, hq, hI⟩
      have he := hF.eval 41 (by decide) (v := .bool q) (by simp)
      cases q
      · exact .inr ⟨he, (fun h => by have := hq.2 h; cases this), hI⟩
      · exact .inl ⟨he, hq.1 rfl, hI⟩
    · rintro a w ⟨hlt, hk, hI⟩
      exact ⟨⟨hk.1, hlt⟩, hI⟩
    · rintro a w ⟨hlt, hk, hI⟩
      obtain rfl : k = ws.length := by omega
      exact ⟨hI.1, hI.2.1, hI.2.2.sub (by simp)⟩
  · intro a w hx
    have hk := hx.1
    exact (((crwn w0 vt vw ts ws h hok hfx k).noX).post (fun a w q => ⟨n - 1, by omega, k + 1, by omega, q⟩)) a w hx
set_option maxRecDepth 100000 in
set_option maxHeartbeats 1000000 in
theorem cr21 (w0 : World) (vt vw : Value) (ts : List ByteArray) (ws : List Int) (h : WH w0 vt vw ts ws) : T3 Try.prog (fun a w => (NoErr (wgtAt ws) ws.length) ∧ (IsW w0 w) ∧ Fr 48 [] a) (sel [1, 1, 1, 1, 1, 0] cwR) (fun a w => (NoErr (wgtAt ws) ws.length) ∧ (IsW w0 w) ∧ Fr 48 [(4, .int .i64 0)] a) No 9 (fun a w => IsW w0 w ∧ Fr 48 [(4, .int .i64 (weightsE ts ws))] a) := by
  refine T3.leaf ?_
  rintro Q JS JX JT K hS hK hX hE hT hR a w ⟨hpre, hW, ⟨fr, rfl, _⟩⟩
  have hpp := Lib.hid hpre
  clear hpre
  rw [fr_cwR]
  conv => arg 2; whnf
  go_wp2_with fail
  refine Met.intro (hS _ _ ?_)
  exact ⟨hpp.out, hW, Fr.of _ rfl ⟨rfl, trivial⟩⟩

set_option maxRecDepth 100000 in
set_option maxHeartbeats 1000000 in
theorem crall (w0 : World) (vt vw : Value) (ts : List ByteArray) (ws : List Int) (h : WH w0 vt vw ts ws) : T3 Try.prog (fun a w => (IsW w0 w) ∧ Fr 48 [(0, vt), (1, vw)] a) cwR No No 9 (fun a w => IsW w0 w ∧ Fr 48 [(4, .int .i64 (weightsE ts ws))] a) := by
  refine T3.seq (s := (sel [0] cwR)) (c := (sel [1] cwR)) (cr0 w0 vt vw ts ws h) ?_
  refine T3.seq (s := (sel [1, 0] cwR)) (c := (sel [1, 1] cwR)) (S := fun a w => WOk1 ts ∧ (IsW w0 w ∧ Fr 48 [(0, vt), (1, vw)] a)) ?_ (T3.pure fun hok => ?_)
  · refine T3.block (id' := 0) (c := (sel [1, 0, 4] cwR)) (by decide) ?_
    refine T3.seq (s := (sel [1, 0, 4, 0] cwR)) (c := (sel [1, 0, 4, 1] cwR)) (cr1 w0 vt vw ts ws h) (T3.iff (M := fun q w => (q = decide ((ts.length : Int) = 0)) ∧ IsW w0 w) (by decide) ?_ ?_)
    · refine T3.seq (s := (sel [1, 0, 4, 1, 2, 0] cwR)) (c := .ret) (t3_seqx (p := ts.length = 0) (cr2 w0 vt vw ts ws h) ?_) (T3.ret ?_)
      · rintro a w ⟨hF, hq, hW⟩
        exact ⟨by have := hq.symm; simp only [decide_eq_true_eq] at this; omega, hW, hF.tail⟩
      · rintro a w ⟨hp, hW, hF⟩
        exact ⟨hW, by rw [we_none hp]; exact hF⟩
    · refine T3.pre (R := fun a w => (ts.length ≠ 0) ∧ (IsW w0 w ∧ Fr 48 [(0, vt), (1, vw)] a)) (T3.pure fun hne => ?_) ?_
      · refine T3.seq (s := (sel [1, 0, 4, 1, 3, 0] cwR)) (c := (sel [1, 0, 4, 1, 3, 1] cwR)) (cr3 w0 vt vw ts ws h) (T3.iff (M := fun q w => (q = decide ((14 : Int) < ts.length)) ∧ IsW w0 w) (by decide) ?_ (T3.skip ?_))
        · refine T3.seq (s := (sel [1, 0, 4, 1, 3, 1, 2, 0] cwR)) (c := .ret) (t3_seqx (p := 14 < ts.length) (cr4 w0 vt vw ts ws h) ?_) (T3.ret ?_)
          · rintro a w ⟨hF, hq, hW⟩
            exact ⟨by have := hq.symm; simp only [decide_eq_true_eq] at this; omega, hW, hF.tail⟩
          · rintro a w ⟨hp, hW, hF⟩
            exact ⟨hW, by rw [we_large hne hp]; exact hF⟩
        · rintro a w ⟨hF, hq, hW⟩
          exact ⟨⟨hne, by have := hq.symm; simp only [decide_eq_false_iff_not] at this; omega⟩, hW, hF.tail⟩
      · rintro a w ⟨hF, hq, hW⟩
        exact ⟨by have := hq.symm; simp only [decide_eq_false_iff_not] at this; omega, hW, hF.tail⟩
  refine T3.seq (s := (sel [1, 1, 0] cwR)) (c := (sel [1, 1, 1] cwR)) (T3.seq (s := (sel [1, 1, 0, 0] cwR)) (c := (sel [1, 1, 0, 1] cwR)) (cr5 w0 vt vw ts ws h) (crtloop w0 vt vw ts ws h hok)) ?_
  refine T3.seq (s := (sel [1, 1, 1, 0] cwR)) (c := (sel [1, 1, 1, 1] cwR)) (S := fun a w => WOk2 ts ws ∧ (IsW w0 w ∧ Fr 48 [(0, vt), (1, vw)] a)) ?_ (T3.pure fun hfx => ?_)
  · refine T3.test (s := (sel [1, 1, 1, 0, 0] cwR)) (x := (sel [1, 1, 1, 0, 1, 2] cwR)) (y := .skip) (C := fun q => ((NoErr (teamAt ts) ts.length) ∧ q = decide ((ws.length : Int) ≠ ts.length))) (W := fun w => IsW w0 w) (by decide) (cr13 w0 vt vw ts ws h) ?_ (T3.skip ?_)
    · refine T3.seq (s := (sel [1, 1, 1, 0, 1, 2, 0] cwR)) (c := .ret) (t3_seqx (p := NoErr (teamAt ts) ts.length ∧ ws.length ≠ ts.length) (cr14 w0 vt vw ts ws h) ?_) (T3.ret ?_)
      · rintro a w ⟨hF, ⟨hp, hq⟩, hW⟩
        exact ⟨⟨hp, by have := hq.symm; simp only [decide_eq_true_eq] at this; omega⟩, hp, hW, hF.tail⟩
      · rintro a w ⟨hp, hW, hF⟩
        exact ⟨hW, by rw [we_form hok hp.1 hp.2]; exact hF⟩
    · rintro a w ⟨⟨hp, hq⟩, hW, hF⟩
      exact ⟨⟨hp, by have := hq.symm; simp only [decide_eq_false_iff_not] at this; omega⟩, hW, hF⟩
  refine T3.seq (s := (sel [1, 1, 1, 1, 0] cwR)) (c := (sel [1, 1, 1, 1, 1] cwR)) (T3.seq (s := (sel [1, 1, 1, 1, 0, 0] cwR)) (c := (sel [1, 1, 1, 1, 0, 1] cwR)) (cr15 w0 vt vw ts ws h) (crwloop w0 vt vw ts ws h hok hfx)) ?_
  refine T3.seq (s := (sel [1, 1, 1, 1, 1, 0] cwR)) (c := .ret) (cr21 w0 vt vw ts ws h) (T3.ret ?_)
  rintro a w ⟨hp, hW, hF⟩
  exact ⟨hW, by rw [we_last hok hfx.1 hfx.2, firstErr_none hp]; exact hF⟩

set_option maxRecDepth 100000 in
set_option maxHeartbeats 1000000 in
theorem weights_ref (w0 : World) (vt vw : Value) (ts : List ByteArray) (ws : List Int) (h : WH w0 vt vw ts ws) : Calls Try.prog 15 #[vt, vw] w0 fun e w' => e = .returned (.int .i64 (weightsE ts ws)) ∧ w0 = w' := by
  have hall := crall w0 vt vw ts ws h
  go_enter Try.func15, Try.ntmps15
  refine T3.done (s := cwR) hall ⟨rfl, Fr.of _ rfl ⟨rfl, rfl, trivial⟩⟩ ?_
  rintro a w ⟨hw, fr, rfl, q4, _⟩
  obtain rfl : w = w0 := hw
  rw [fr_cwR, show fr 4 = _ from q4]
  go_ret
  exact ⟨rfl, rfl⟩

end Go.Proofs.Ytkdimgghljklmaa
/-
  Lots: what is wrong with how many are drawn, the program's and the reference's look; how far a team can fall, the program's. Conditions: as for weights; Go's numbers.
-/
set_option linter.unusedVariables false
namespace Go.Proofs.Ytkdimgghljklmaa
open Go.RowKit Go.Bw
theorem topB_out (n : Nat) (top : Int) : outB top 0 (min 4 (n : Int)) = topB n top := by
  unfold outB topB
  by_cases a : top < 0 <;> by_cases b : 4 < top <;> by_cases c : (n : Int) < top <;> simp [a, b, c] <;> omega
def topR (n : Nat) (top : Int) : Int := if topB n top = true then 1 else 0
theorem topE_eq (ts : List ByteArray) (ws : List Int) (top : Int) : topE ts ws top = if weightsE ts ws ≠ 0 then weightsE ts ws else topR ts.length top := rfl

set_option maxRecDepth 100000 in
set_option maxHeartbeats 1000000 in
theorem top_prog (w0 : World) (vt vw : Value) (ts : List ByteArray) (ws : List Int) (top : Int) (h : WH w0 vt vw ts ws) :
    Calls Try.prog 35 #[vt, vw, .int .i64 top] w0 fun e w' => e = .returned (.int .i64 (topE ts ws top)) ∧ w0 = w' := by
  have HW := Lib.hid (weights_prog w0 vt vw ts ws h)
  have HE := Lib.hid (topE_eq ts ws top)
  have HT := Lib.hid (topB_out ts.length top)
  have hn := h.tn
  obtain ⟨p1, c1, hv1⟩ := h.t.shape
  subst hv1
  clear h
  by_cases h0 : weightsE ts ws = 0
  · rw [h0] at HW
    have H0 := Lib.hid h0
    clear h0
    have HO := Lib.hid (fun w => out_any top 0 (min 4 (ts.length : Int)) w)
    rw [HT.out] at HO
    cases hb : topB ts.length top
    · have HR := Lib.hid (show topE ts ws top = 0 by rw [HE.out, if_neg (by simp [H0.out]), topR, hb]; rfl)
      rw [hb] at HO
      clear hb
      go_enter Try.func35, Try.ntmps35
      go_wp2_with (first | (go_at_call 22; refine HW.out.mono ?_; rintro e w1 ⟨rfl, rfl⟩) | (go_at_call 42; refine (HO.out _).mono ?_; rintro e w1 ⟨rfl, rfl⟩))
      go_ret
      exact ⟨ret_int HR.out.symm, rfl⟩
    · have HR := Lib.hid (show topE ts ws top = 1 by rw [HE.out, if_neg (by simp [H0.out]), topR, hb]; rfl)
      rw [hb] at HO
      clear hb
      go_enter Try.func35, Try.ntmps35
      go_wp2_with (first | (go_at_call 22; refine HW.out.mono ?_; rintro e w1 ⟨rfl, rfl⟩) | (go_at_call 42; refine (HO.out _).mono ?_; rintro e w1 ⟨rfl, rfl⟩))
      go_ret
      exact ⟨ret_int HR.out.symm, rfl⟩
  · have HR := Lib.hid (show topE ts ws top = weightsE ts ws by rw [HE.out, if_pos h0])
    generalize weightsE ts ws = e0 at *
    have hz : (e0 == 0) = false := by simp [h0]
    clear h0
    go_enter Try.func35, Try.ntmps35
    go_wp2_with (go_at_call 22; refine HW.out.mono ?_; rintro e w1 ⟨rfl, rfl⟩)
    go_ret
    exact ⟨ret_int HR.out.symm, rfl⟩

set_option maxRecDepth 100000 in
set_option maxHeartbeats 1000000 in
theorem top_ref (w0 : World) (vt : Value) (n : Nat) (sz base : Nat) (cs : List Value) (top : Int) (h : Row w0 base sz vt n cs) :
    Calls Try.prog 16 #[vt, .int .i64 top] w0 fun e w' => e = .returned (.int .i64 (topR n top)) ∧ w0 = w' := by
  obtain ⟨p1, c1, hv1⟩ := h.shape
  subst hv1
  clear h
  have HO := Lib.hid (fun w => in_any top 0 4 w)
  cases ho : outB top 0 4
  · by_cases hn : (n : Int) < top
    · have HR := Lib.hid (show topR n top = 1 by unfold topR topB; simp [hn])
      have hd : decide ((n : Int) < top) = true := by simp [hn]
      rw [ho] at HO
      clear ho hn
      go_enter Try.func16, Try.ntmps16
      go_wp2_with (go_at_call 47; refine (HO.out _).mono ?_; rintro e w1 ⟨rfl, rfl⟩)
      go_ret
      exact ⟨ret_int HR.out.symm, rfl⟩
    · have HR := Lib.hid (show topR n top = 0 by have := out_no ho; unfold topR topB; rw [if_neg]; simp; omega)
      have hd : decide ((n : Int) < top) = false := by simp; omega
      rw [ho] at HO
      clear ho hn
      go_enter Try.func16, Try.ntmps16
      go_wp2_with (go_at_call 47; refine (HO.out _).mono ?_; rintro e w1 ⟨rfl, rfl⟩)
      go_ret
      exact ⟨ret_int HR.out.symm, rfl⟩
  · have HR := Lib.hid (show topR n top = 1 by unfold topR topB; simp [outB] at ho; rw [if_pos]; simp; omega)
    rw [ho] at HO
    clear ho
    go_enter Try.func16, Try.ntmps16
    go_wp2_with (go_at_call 47; refine (HO.out _).mono ?_; rintro e w1 ⟨rfl, rfl⟩)
    go_ret
    exact ⟨ret_int HR.out.symm, rfl⟩

/-- How far a team can fall. -/
def fallL (ts : List ByteArray) (ws : List Int) (top : Int) : Int := if topE ts ws top = 0 then min top ((ts.length : Int) - 1) else 0
set_option maxRecDepth 100000 in
set_option maxHeartbeats 1000000 in
theorem fall_prog (w0 : World) (vt vw : Value) (ts : List ByteArray) (ws : List Int) (top : Int) (h : WH w0 vt vw ts ws) :
    Calls Try.prog 13 #[vt, vw, .int .i64 top] w0 fun e w' => e = .returned (.tuple #[.int .i64 (fallL ts ws top), .int .i64 (topE ts ws top)]) ∧ w0 = w' := by
  have HW := Lib.hid (top_prog w0 vt vw ts ws top h)
  have hn := h.tn
  obtain ⟨p1, c1, hv1⟩ := h.t.shape
  subst hv1
  clear h
  by_cases h0 : topE ts ws top = 0
  · have HF := Lib.hid (show (.tuple #[.int .i64 (fallL ts ws top), .int .i64 (topE ts ws top)] : Value) = .tuple #[.int .i64 (min top ((ts.length : Int) - 1)), .int .i64 0] by unfold fallL; rw [if_pos h0, h0])
    rw [h0] at HW
    clear h0
    go_enter Try.func13, Try.ntmps13
    go_wp2_with (go_at_call 35; refine HW.out.mono ?_; rintro e w1 ⟨rfl, rfl⟩)
    go_ret2
    exact ⟨by rw [HF.out]; rfl, rfl⟩
  · have HF := Lib.hid (show fallL ts ws top = 0 by unfold fallL; rw [if_neg h0])
    generalize topE ts ws top = e0 at *
    have hz : (e0 != 0) = true := by simp [h0]
    clear h0
    go_enter Try.func13, Try.ntmps13
    go_wp2_with (go_at_call 35; refine HW.out.mono ?_; rintro e w1 ⟨rfl, rfl⟩)
    go_ret2
    exact ⟨by rw [HF.out]; rfl, rfl⟩
end Go.Proofs.Ytkdimgghljklmaa
/-
  As the schedules for regions that draw their order and hold calls; here two operations may come up in either order. No condition on a program.
-/
set_option linter.unusedVariables false
namespace Go.Bw
open Go.RowKit
/-- A schedule: a calm operation; the one that is left; one of two. -/
inductive Sch
  | done
  | calm (i : Nat) (r : Sch)
  | one (i : Nat) (r : Sch)
  | two (i j : Nat) (r s : Sch)
def Sch.len : Sch → Nat
  | .done => 0
  | .calm _ r => r.len + 1
  | .one _ r => r.len + 1
  | .two _ _ r _ => r.len + 1
def Sch.inB (n : Nat) : Sch → Bool
  | .done => true
  | .calm i r => decide (i < n) && r.inB n
  | .one i r => decide (i < n) && r.inB n
  | .two i j r s => decide (i < n) && decide (j < n) && r.inB n && s.inB n
section
variable {P : Program} {Q : Exit → Act → World → Prop} {S : World → Prop} {md : Region.Mode}
def schB (md : Region.Mode) (ops : Array Oper) : Sch → Array Bool → Bool
  | .done, listed => (Region.ready md ops listed).isEmpty
  | .calm i r, listed => Region.free md ops listed i && (Region.ready md ops listed).contains i && schB md ops r (listed.setIfInBounds i true)
  | .one i r, listed => decide (Region.ready md ops listed = [i]) && schB md ops r (listed.setIfInBounds i true)
  | .two i j r s, listed => decide (Region.ready md ops listed = [i, j]) && (r.len == s.len) && schB md ops r (listed.setIfInBounds i true) && schB md ops s (listed.setIfInBounds j true)
def wpDo (P : Program) (ops : Array Oper) (Q : Exit → Act → World → Prop) (S : World → Prop) (o : Oper) (K : Act → World → Prop) (a : Act) (w : World) : Prop :=
  if Region.wanted o (yielded ops a.tmps) then o.wp P a w (fun a w => S w ∧ K a w) Q ∨ (o.asks P a w ∧ LetsOut Q) else S w ∧ K (a.put o.dst undef) w
def wpSch (P : Program) (l : List Oper) (Q : Exit → Act → World → Prop) (S : World → Prop) : Sch → Act → World → Prop
  | .done, a, w => Q .normal a w
  | .calm i r, a, w => ∃ o, l[i]? = some o ∧ ∃ v, YieldsIf P l.toArray S o v a ∧ wpSch P l Q S r (a.put o.dst v) w
  | .one i r, a, w => ∃ o, l[i]? = some o ∧ wpDo P l.toArray Q S o (wpSch P l Q S r) a w
  | .two i j r s, a, w => (∃ o, l[i]? = some o ∧ wpDo P l.toArray Q S o (wpSch P l Q S r) a w) ∧ ∃ o, l[j]? = some o ∧ wpDo P l.toArray Q S o (wpSch P l Q S s) a w

theorem sch_op {l : List Oper} {i : Nat} {o : Oper} {K : Act → World → Prop} {a : Act} {w : World} (ho : l[i]? = some o) (h : wpDo P l.toArray Q S o K a w) : wpOp P l.toArray Q i (fun a w => S w ∧ K a w) a w := by
  unfold wpOp
  have : l.toArray[i]? = some o := by simpa using ho
  simp only [this]
  exact h

theorem sch_H {l : List Oper} (hs : Region.noSelect l.toArray = true) (hQ : ∀ c a d v w, Q (.panic c) (Act.put a d v) w → Q (.panic c) a w) :
    ∀ (c : Sch) (listed : Array Bool) (a : Act) (w : World), schB md l.toArray c listed = true → S w → wpSch P l Q S c a w → wpAnyH P md l.toArray Q S c.len listed a w
  | .done, listed, a, w, hB, _, h => ⟨by simpa [schB] using hB, h⟩
  | .calm i r, listed, a, w, hB, hS, h => by
    simp only [schB, Bool.and_eq_true] at hB
    obtain ⟨⟨hf, hr⟩, hB'⟩ := hB
    obtain ⟨o, ho, v, hy, hk⟩ := h
    exact wpAnyH_take (by simpa using ho) hs hf hr (fun c a w => hQ c a _ _ w) hy hS (sch_H hs hQ r _ _ w hB' hS hk)
  | .one i r, listed, a, w, hB, hS, h => by
    simp only [schB, Bool.and_eq_true, decide_eq_true_eq] at hB
    obtain ⟨hr, hB'⟩ := hB
    obtain ⟨o, ho, hk⟩ := h
    refine wpAnyH_all hr (by simp) fun j hj => ?_
    obtain rfl : j = i := by simpa using hj
    exact wpOp_mono (fun a' w' h' => ⟨h'.1, sch_H hs hQ r _ a' w' hB' h'.1 h'.2⟩) (sch_op ho hk)
  | .two i j r s, listed, a, w, hB, hS, h => by
    simp only [schB, Bool.and_eq_true, decide_eq_true_eq, beq_iff_eq] at hB
    obtain ⟨⟨⟨hr, hl⟩, hB1⟩, hB2⟩ := hB
    obtain ⟨⟨o1, ho1, hk1⟩, o2, ho2, hk2⟩ := h
    refine wpAnyH_all hr (by simp) fun k hk => ?_
    simp only [List.mem_cons, List.mem_nil_iff, or_false] at hk
    rcases hk with rfl | rfl
    · exact wpOp_mono (fun a' w' h' => ⟨h'.1, sch_H hs hQ r _ a' w' hB1 h'.1 h'.2⟩) (sch_op ho1 hk1)
    · exact wpOp_mono (fun a' w' h' => ⟨h'.1, by rw [hl]; exact sch_H hs hQ s _ a' w' hB2 h'.1 h'.2⟩) (sch_op ho2 hk2)

theorem wp_region_sch {id : Nat} {a : Act} {w : World} {l : List Oper} (row : Option Nat) (c : Sch) (hm : P.follows .mixedOrders = true)
    (hB : (Region.noSelect l.toArray && schB .any l.toArray c (Array.replicate l.length false) && decide (c.len = l.length)) = true)
    (hQ : ∀ c a d v w, Q (.panic c) (Act.put a d v) w → Q (.panic c) a w)
    (h : wpSch P l Q (fun w' => w.drew.grownBy w' row) c a w.drew) : (Code.region id l.toArray true).wp P Q a w := by
  simp only [Bool.and_eq_true, decide_eq_true_eq] at hB
  obtain ⟨⟨hs, hc⟩, hlen⟩ := hB
  refine wp_region_held hm (S := fun w' => w.drew.grownBy w' row) ?_
  have := sch_H hs hQ c (Array.replicate l.length false) a w.drew hc (grown_refl _ _) h
  rw [hlen] at this
  simpa using this

theorem sch_hide {w₁ : World} {row : Option Nat} {l : List Oper} {c : Sch} {a : Act} {w : World}
    (h : ∀ W : Sch → Act → World → Prop,
      Hid (∀ i o r a w, l[i]? = some o → (∀ K : Act → Prop, (∀ a, W r a w → K a) → if Region.wanted o (yielded l.toArray a.tmps) then Oper.heldAt P w₁ row o a K else K (a.put o.dst undef)) → W (.calm i r) a w) →
      Hid (∀ i o r a w, l[i]? = some o → Region.wanted o (yielded l.toArray a.tmps) = true → (∀ K : Act → World → Prop, Hid (∀ a w, w₁.grownBy w row → W r a w → K a w) → wpList P [bare o].toArray (Exit.then K Q) [bare o] a w) → W (.one i r) a w) →
      Hid (∀ i o r a w, l[i]? = some o → w₁.grownBy w row → Region.wanted o (yielded l.toArray a.tmps) = false → W r (a.put o.dst undef) w → W (.one i r) a w) →
      Hid (∀ i j r s a w, W (.one i r) a w → W (.one j s) a w → W (.two i j r s) a w) →
      Hid (∀ a w, Q .normal a w → W .done a w) → W c a w) : wpSch P l Q (fun w => w₁.grownBy w row) c a w := by
  refine h (wpSch P l Q (fun w => w₁.grownBy w row)) (Lib.hid fun i o r a w ho hk => ?_) (Lib.hid fun i o r a w ho hw hk => ?_) (Lib.hid fun i o r a w ho hS hw hk => ?_) (Lib.hid fun i j r s a w h1 h2 => ?_) (Lib.hid fun a w hk => hk)
  · have := hk _ (fun _ h => h)
    refine ⟨o, ho, ?_⟩
    split at this
    · rename_i hw
      obtain ⟨v, hv, hn⟩ := this
      exact ⟨v, .inl ⟨hw, fun w' hw' => by have := hv w'; rwa [wof_of hw'] at this⟩, hn⟩
    · rename_i hw
      exact ⟨undef, .inr ⟨by simpa using hw, rfl⟩, this⟩
  · have := hk (fun a w => w₁.grownBy w row ∧ wpSch P l Q (fun w => w₁.grownBy w row) r a w) (Lib.hid fun _ _ h1 h2 => ⟨h1, h2⟩)
    unfold wpList at this
    rw [if_pos (show Region.wanted (bare o) (yielded [bare o].toArray a.tmps) = true from rfl)] at this
    refine ⟨o, ho, ?_⟩
    unfold wpDo
    rw [if_pos hw]
    rcases this with h1 | ⟨h1, h2⟩
    · exact .inl (wp_then h1)
    · exact .inr ⟨h1, h2⟩
  · refine ⟨o, ho, ?_⟩
    unfold wpDo
    rw [if_neg (by simp [hw])]
    exact ⟨hS, hk⟩
  · exact ⟨h1, h2⟩
end
end Go.Bw
/-
  Lots: lists of Booleans and numbers that a call makes; is a number below 0 among some? Condition: at most 1000.
-/
set_option linter.unusedVariables false
namespace Go.Proofs.Ytkdimgghljklmaa
open Go.RowKit Go.Bw
theorem bool_info : (Try.prog.info? 4).map (fun i => (i.zero, i.size, i.bytes)) = some (some (.bool false), 1, 1) := by kernel_rfl
theorem int_info : (Try.prog.info? 3).map (fun i => (i.zero, i.size, i.bytes)) = some (some (.int .i64 0), 1, 8) := by kernel_rfl
theorem mk_bools (n : Nat) (hn : n ≤ 1000) (w : World) : (Instr.makeSlice 64 (.int .i64 n) (.int .i64 n)).run Try.prog w = .ok (.slice (some ⟨w.heap.size, 0, none⟩) n n) (w.alloc (.cells (madeCells #[.bool false] n) 4)) := by
  obtain ⟨i, hi, hz0, hz1, hz2⟩ := info_parts bool_info
  have := run_makeSlice (P := Try.prog) w 64 4 i (.bool false) (by kernel_rfl) hi hz0 .i64 .i64 n n (by omega) (by omega) (by simp [hz1]; omega) (by simp [hz2]; omega) (by omega)
  simpa [hz1, Value.cells] using this
theorem mk_ints (n : Nat) (hn : n ≤ 1000) (w : World) : (Instr.makeSlice 22 (.int .i64 n) (.int .i64 n)).run Try.prog w = .ok (.slice (some ⟨w.heap.size, 0, none⟩) n n) (w.alloc (.cells (madeCells #[.int .i64 0] n) 3)) := by
  obtain ⟨i, hi, hz0, hz1, hz2⟩ := info_parts int_info
  have := run_makeSlice (P := Try.prog) w 22 3 i (.int .i64 0) (by kernel_rfl) hi hz0 .i64 .i64 n n (by omega) (by omega) (by simp [hz1]; omega) (by simp [hz2]; omega) (by omega)
  simpa [hz1, Value.cells] using this
theorem made_list (z : Value) (n : Nat) : (madeCells #[z] n).toList = List.replicate n z := by
  apply List.ext_getElem
  · simp [size_madeCells]
  · intro i h1 h2
    simp [madeCells, Nat.mod_one]
theorem owns_made (w : World) (base e : TypeId) (z : Value) (n : Nat) (hn : n ≤ 1000) (hb : base ≤ w.heap.size) : (w.alloc (.cells (madeCells #[z] n) e)).ownsRow base e 1 (.slice (some ⟨w.heap.size, 0, none⟩) n n) n (List.replicate n z) := by
  have h := owns_lit w base e (madeCells #[z] n) n (by omega) (size_madeCells _ _) hb
  rwa [made_list] at h
theorem takenC_nil (n : Nat) : takenC n [] = List.replicate n (.bool false) := by
  unfold takenC
  apply List.ext_getElem
  · simp
  · intro i h1 h2
    simp
/-- One more has a place. -/
theorem takenC_set (n : Nat) (h : List Nat) (j : Nat) (hj : j < n) : (takenC n h).set j (.bool true) = takenC n (h ++ [j]) := by
  unfold takenC
  apply List.ext_getElem
  · simp
  · intro i h1 h2
    by_cases hij : j = i
    · subst hij; simp
    · rw [List.getElem_set_ne hij]
      simp [Ne.symm hij]

set_option maxRecDepth 100000 in
set_option maxHeartbeats 1000000 in
theorem neg_one (x : Int) (w : World) : Calls Try.prog 37 #[.int .i64 x] w fun e w' => e = .returned (.bool (decide (x < 0))) ∧ w = w' := by
  go_enter Try.func37, Try.ntmps37
  go_wp2_with fail
  go_ret
  exact ⟨rfl, rfl⟩
theorem lotAt_none (l : List Int) (h : ∀ j : Int, 0 ≤ j → j < l.length → 0 ≤ geti l j) : lotAt l = false := by
  unfold lotAt
  rw [List.any_eq_false]
  intro x hx
  obtain ⟨i, hi, rfl⟩ := List.getElem_of_mem hx
  have := h i (by omega) (by omega)
  simp [geti, hi] at this
  simp; omega
theorem lotAt_some (l : List Int) (j : Int) (h0 : 0 ≤ j) (h1 : j < l.length) (h : geti l j < 0) : lotAt l = true := by
  unfold lotAt
  rw [List.any_eq_true]
  have e : geti l j = l[j.toNat]'(by omega) := by simp [geti, show j.toNat < l.length by omega]
  exact ⟨_, List.getElem_mem _, by rw [← e]; simp [h]⟩
set_option maxRecDepth 100000 in
set_option maxHeartbeats 1000000 in
theorem idx_neg (v : Value) (n : Nat) (l : List Int) (base : Nat) (w : World) (h : Row w base 1 v n (l.map (.int .i64))) (hn : n ≤ 1000) :
    Calls Try.prog 73 #[v, .func (.func 37) #[] #[]] w fun e w' => ∃ r : Int, e = .returned (.int .i64 r) ∧ (decide (0 ≤ r) = lotAt l) ∧ w = w' := by
  obtain ⟨hl, hc⟩ := h.ints
  obtain ⟨p, c, hv⟩ := h.shape
  clear h
  subst hv
  have HL := Lib.hid hl
  go_enter Try.func73, Try.ntmps73
  clear hl
  go_wp2_with fail
  go_loop [8] (fun i => ∃ k : Int, 0 ≤ k ∧ k ≤ n ∧ i = .int .i64 k ∧ Hid (∀ j : Int, 0 ≤ j → j < k → 0 ≤ geti l j)) (fun i => n - (intOf i).toNat)
  case atStart => exact ⟨0, by omega, by omega, rfl, Lib.hid fun j h0 h1 => by omega⟩
  case round =>
    obtain ⟨k, hk0, hk1, rfl, hz⟩ := hrel
    by_cases hlt : k < n
    · rcases hc with ⟨hv, h0⟩ | ⟨b, off, cap, hv, _, hbs, hnc, hcm, hcell⟩
      · omega
      simp only [Value.slice.injEq] at hv
      obtain ⟨rfl, _, rfl⟩ := hv
      have c1 := hcell k hk0 hlt
      clear hcell
      have H1 := Lib.hid (neg_one (geti l k) w)
      by_cases hx : geti l k < 0
      · have HA := Lib.hid (lotAt_some l k hk0 (by rw [HL.out]; exact hlt) hx)
        rw [show decide (geti l k < 0) = true by simp [hx]] at H1
        clear hx
        generalize geti l k = x at *
        go_wp2_with (go_at_call 37; refine H1.out.mono ?_; rintro e w1 ⟨rfl, rfl⟩)
        go_ret
        exact ⟨k, rfl, by rw [HA.out]; simp [hk0], rfl⟩
      · have HZ := Lib.hid (show ∀ j : Int, 0 ≤ j → j < k + 1 → 0 ≤ geti l j from fun j h0 h1 => by
          by_cases hj : j = k
          · rw [hj]; omega
          · exact hz.out j h0 (by omega))
        rw [show decide (geti l k < 0) = false by simp; omega] at H1
        clear hx
        generalize geti l k = x at *
        go_wp2_with (go_at_call 37; refine H1.out.mono ?_; rintro e w1 ⟨rfl, rfl⟩)
        go_round
        case rel => exact ⟨k + 1, by omega, by omega, rfl, HZ⟩
        case measure => simp [intOf]; omega
    · have HE := Lib.hid (lotAt_none l fun j h0 h1 => hz.out j h0 (by have := HL.out; omega))
      clear hc
      go_wp2_with fail
      go_ret
      exact ⟨-1, rfl, by rw [HE.out]; decide, rfl⟩
set_option maxRecDepth 100000 in
set_option maxHeartbeats 1000000 in
theorem any_neg (v : Value) (n : Nat) (l : List Int) (base : Nat) (w : World) (h : Row w base 1 v n (l.map (.int .i64))) (hn : n ≤ 1000) :
    Calls Try.prog 36 #[v, .func (.func 37) #[] #[]] w fun e w' => e = .returned (.bool (lotAt l)) ∧ w = w' := by
  have H1 := Lib.hid (idx_neg v n l base w h hn)
  obtain ⟨p, c, hv⟩ := h.shape
  clear h
  subst hv
  go_enter Try.func36, Try.ntmps36
  go_wp2_with fail
  refine H1.out.mono ?_
  rintro e w1 ⟨r, rfl, hr, rfl⟩
  have HR := Lib.hid hr
  clear hr
  go_wp2_with fail
  go_ret
  exact ⟨ret_bool HR.out, rfl⟩
end Go.Proofs.Ytkdimgghljklmaa
