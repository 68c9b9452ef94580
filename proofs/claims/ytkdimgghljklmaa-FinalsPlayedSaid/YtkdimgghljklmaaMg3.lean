/-
  Contracts and lemmas towards the statement, of several parts; each part says ahead of it what it holds and under which conditions.
-/
import Derived.Test.YtkdimgghljklmaaMg2
/-
  Lots: what is wrong with teams and weights, the program's and the reference's look. Conditions: strings are no longer than Go's; at most 1000 teams and weights.
-/
set_option linter.unusedVariables false
namespace Go.Proofs.Ytkdimgghljklmaa
open Go.RowKit Go.Bw
/-- The world is w0 (a plain name: the walk does not rewrite by it). -/
def IsW (w0 w : World) : Prop := w = w0
/-- The data of a call. -/
structure WH (w0 : World) (vt vw : Value) (ts : List ByteArray) (ws : List Int) : Prop where
  t : Row w0 0 1 vt ts.length (cellsOf encSt ts)
  w : Row w0 0 1 vw ws.length (ws.map (.int .i64))
  z : ∀ s ∈ ts, s.size ≤ 9223372036854775807
  tn : ts.length ≤ 1000
  wn : ws.length ≤ 1000
theorem WH.below {w0 w' : World} {vt vw : Value} {ts : List ByteArray} {ws : List Int} (h : WH w0 vt vw ts ws) (b : Below w0.heap.size w0 w') : WH w' vt vw ts ws := ⟨h.t.below b, h.w.below b, h.z, h.tn, h.wn⟩
/-- What holds ahead of the look at the weights. -/
def WOk1 (ts : List ByteArray) : Prop := ts.length ≠ 0 ∧ ¬ 14 < ts.length
structure WOk2 (ts : List ByteArray) (ws : List Int) : Prop where
  ne : NoErr (teamAt ts) ts.length
  len : ws.length = ts.length
theorem we_none {ts : List ByteArray} {ws : List Int} (h : ts.length = 0) : weightsE ts ws = 8 := by unfold weightsE; rw [if_pos h]
theorem we_large {ts : List ByteArray} {ws : List Int} (h0 : ts.length ≠ 0) (h : 14 < ts.length) : weightsE ts ws = 2 := by unfold weightsE; rw [if_neg h0, if_pos h]
theorem we_team {ts : List ByteArray} {ws : List Int} (h : WOk1 ts) {k : Int} (hk0 : 0 ≤ k) (hk1 : k < ts.length) (hn : NoErr (teamAt ts) k) (he : teamAt ts k ≠ 0) : weightsE ts ws = teamAt ts k := by
  have := firstErr_hit hn hk0 hk1 he
  unfold weightsE
  rw [if_neg h.1, if_neg h.2, this, if_pos he]
theorem we_form {ts : List ByteArray} {ws : List Int} (h : WOk1 ts) (hn : NoErr (teamAt ts) ts.length) (hl : ws.length ≠ ts.length) : weightsE ts ws = 3 := by
  unfold weightsE
  rw [if_neg h.1, if_neg h.2, firstErr_none hn, if_neg (by decide), if_pos hl]
theorem we_last {ts : List ByteArray} {ws : List Int} (h : WOk1 ts) (hn : NoErr (teamAt ts) ts.length) (hl : ws.length = ts.length) : weightsE ts ws = firstErr (wgtAt ws) ws.length := by
  unfold weightsE
  rw [if_neg h.1, if_neg h.2, firstErr_none hn, if_neg (by decide), if_neg (by simp [hl])]
theorem t3_seqx {P : Program} {R R' S X T : Rel} {s : Code} {id : Nat} {p : Prop} (h : T3 P R s S X id T) (hR : ∀ a w, R' a w → p ∧ R a w) : T3 P R' s (fun a w => p ∧ S a w) X id T := by
  intro a w q
  obtain ⟨hp, hr⟩ := hR a w q
  refine wp_mono (h a w hr) ?_
  intro e a w q
  cases e <;> first | exact ⟨hp, q⟩ | exact q
noncomputable def cwP : Code := (Try.f22.body).getD .skip
set_option maxRecDepth 100000 in
theorem fr_cwP (f : Nat → Value) : frame 47 f = ⟨#[f 0, f 1, f 2, f 3, f 4, f 5, f 6, f 7, f 8, f 9, f 10, f 11, f 12, f 13, f 14, f 15, f 16, f 17, f 18, f 19, f 20, f 21, f 22, f 23, f 24, f 25, f 26, f 27, f 28, f 29, f 30, f 31, f 32, f 33, f 34, f 35, f 36, f 37, f 38, f 39, f 40, f 41, f 42, f 43, f 44, f 45, f 46], []⟩ := by rfl
set_option maxRecDepth 100000 in
set_option maxHeartbeats 1000000 in
theorem cp0 (w0 : World) (vt vw : Value) (ts : List ByteArray) (ws : List Int) (h : WH w0 vt vw ts ws) : T3 Try.prog (fun a w => (IsW w0 w) ∧ Fr 47 [(0, vt), (1, vw)] a) (sel [0] cwP) (fun a w => (IsW w0 w) ∧ Fr 47 [(0, vt), (1, vw)] a) No 9 (fun a w => IsW w0 w ∧ Fr 47 [(4, .int .i64 (weightsE ts ws))] a) := by
  refine T3.leaf ?_
  rintro Q JS JX JT K hS hK hX hE hT hR a w ⟨hW, ⟨fr, rfl, q0, q1, _⟩⟩
  obtain ⟨p1, c1, hv1⟩ := h.t.shape
  subst hv1
  obtain ⟨p2, c2, hv2⟩ := h.w.shape
  subst hv2
  rw [fr_cwP, show fr 0 = _ from q0, show fr 1 = _ from q1]
  clear q0 q1
  conv => arg 2; whnf
  go_wp2_with fail
  refine Met.intro (hS _ _ ?_)
  exact ⟨hW, Fr.of _ rfl ⟨rfl, rfl, trivial⟩⟩

set_option maxRecDepth 100000 in
set_option maxHeartbeats 1000000 in
theorem cp1 (w0 : World) (vt vw : Value) (ts : List ByteArray) (ws : List Int) (h : WH w0 vt vw ts ws) : T3 Try.prog (fun a w => (IsW w0 w) ∧ Fr 47 [(0, vt), (1, vw)] a) (sel [1, 0, 4, 0] cwP) (fun a w => ∃ q, Fr 47 ((9, .bool q) :: [(0, vt), (1, vw)]) a ∧ ((q = decide ((ts.length : Int) = 0)) ∧ IsW w0 w)) No 9 (fun a w => IsW w0 w ∧ Fr 47 [(4, .int .i64 (weightsE ts ws))] a) := by
  refine T3.leaf ?_
  rintro Q JS JX JT K hS hK hX hE hT hR a w ⟨hW, ⟨fr, rfl, q0, q1, _⟩⟩
  obtain ⟨p1, c1, hv1⟩ := h.t.shape
  subst hv1
  obtain ⟨p2, c2, hv2⟩ := h.w.shape
  subst hv2
  rw [fr_cwP, show fr 0 = _ from q0, show fr 1 = _ from q1]
  clear q0 q1
  conv => arg 2; whnf
  go_wp2_with fail
  refine Met.intro (hS _ _ ?_)
  exact ⟨_, Fr.of _ rfl ⟨rfl, rfl, rfl, trivial⟩, rfl, hW⟩

set_option maxRecDepth 100000 in
set_option maxHeartbeats 1000000 in
theorem cp3 (w0 : World) (vt vw : Value) (ts : List ByteArray) (ws : List Int) (h : WH w0 vt vw ts ws) : T3 Try.prog (fun a w => (IsW w0 w) ∧ Fr 47 [(0, vt), (1, vw)] a) (sel [1, 0, 4, 1, 3, 0] cwP) (fun a w => ∃ q, Fr 47 ((13, .bool q) :: [(0, vt), (1, vw)]) a ∧ ((q = decide ((14 : Int) < ts.length)) ∧ IsW w0 w)) No 9 (fun a w => IsW w0 w ∧ Fr 47 [(4, .int .i64 (weightsE ts ws))] a) := by
  refine T3.leaf ?_
  rintro Q JS JX JT K hS hK hX hE hT hR a w ⟨hW, ⟨fr, rfl, q0, q1, _⟩⟩
  obtain ⟨p1, c1, hv1⟩ := h.t.shape
  subst hv1
  obtain ⟨p2, c2, hv2⟩ := h.w.shape
  subst hv2
  rw [fr_cwP, show fr 0 = _ from q0, show fr 1 = _ from q1]
  clear q0 q1
  conv => arg 2; whnf
  go_wp2_with fail
  refine Met.intro (hS _ _ ?_)
  exact ⟨_, Fr.of _ rfl ⟨rfl, rfl, rfl, trivial⟩, rfl, hW⟩

set_option maxRecDepth 100000 in
set_option maxHeartbeats 1000000 in
theorem cp2 (w0 : World) (vt vw : Value) (ts : List ByteArray) (ws : List Int) (h : WH w0 vt vw ts ws) : T3 Try.prog (fun a w => (IsW w0 w) ∧ Fr 47 [(0, vt), (1, vw)] a) (sel [1, 0, 4, 1, 2, 0] cwP) (fun a w => (IsW w0 w) ∧ Fr 47 [(4, .int .i64 8)] a) No 9 (fun a w => IsW w0 w ∧ Fr 47 [(4, .int .i64 (weightsE ts ws))] a) := by
  refine T3.leaf ?_
  rintro Q JS JX JT K hS hK hX hE hT hR a w ⟨hW, ⟨fr, rfl, q0, q1, _⟩⟩
  rw [fr_cwP, show fr 0 = _ from q0, show fr 1 = _ from q1]
  clear q0 q1
  conv => arg 2; whnf
  go_wp2_with fail
  refine Met.intro (hS _ _ ?_)
  exact ⟨hW, Fr.of _ rfl ⟨rfl, trivial⟩⟩

set_option maxRecDepth 100000 in
set_option maxHeartbeats 1000000 in
theorem cp4 (w0 : World) (vt vw : Value) (ts : List ByteArray) (ws : List Int) (h : WH w0 vt vw ts ws) : T3 Try.prog (fun a w => (IsW w0 w) ∧ Fr 47 [(0, vt), (1, vw)] a) (sel [1, 0, 4, 1, 3, 1, 2, 0] cwP) (fun a w => (IsW w0 w) ∧ Fr 47 [(4, .int .i64 2)] a) No 9 (fun a w => IsW w0 w ∧ Fr 47 [(4, .int .i64 (weightsE ts ws))] a) := by
  refine T3.leaf ?_
  rintro Q JS JX JT K hS hK hX hE hT hR a w ⟨hW, ⟨fr, rfl, q0, q1, _⟩⟩
  rw [fr_cwP, show fr 0 = _ from q0, show fr 1 = _ from q1]
  clear q0 q1
  conv => arg 2; whnf
  go_wp2_with fail
  refine Met.intro (hS _ _ ?_)
  exact ⟨hW, Fr.of _ rfl ⟨rfl, trivial⟩⟩

set_option maxRecDepth 100000 in
set_option maxHeartbeats 1000000 in
theorem cp5 (w0 : World) (vt vw : Value) (ts : List ByteArray) (ws : List Int) (h : WH w0 vt vw ts ws) : T3 Try.prog (fun a w => (IsW w0 w) ∧ Fr 47 [(0, vt), (1, vw)] a) (sel [1, 1, 0, 0] cwP) (fun a w => (0 ≤ (0 : Int) ∧ (0 : Int) ≤ ts.length) ∧ (NoErr (teamAt ts) 0) ∧ (IsW w0 w) ∧ Fr 47 [(0, vt), (1, vw), (17, vt), (18, .int .i64 ts.length), (19, .int .i64 0)] a) No 9 (fun a w => IsW w0 w ∧ Fr 47 [(4, .int .i64 (weightsE ts ws))] a) := by
  refine T3.leaf ?_
  rintro Q JS JX JT K hS hK hX hE hT hR a w ⟨hW, ⟨fr, rfl, q0, q1, _⟩⟩
  obtain ⟨p1, c1, hv1⟩ := h.t.shape
  subst hv1
  obtain ⟨p2, c2, hv2⟩ := h.w.shape
  subst hv2
  rw [fr_cwP, show fr 0 = _ from q0, show fr 1 = _ from q1]
  clear q0 q1
  conv => arg 2; whnf
  go_wp2_with fail
  refine Met.intro (hS _ _ ?_)
  exact ⟨⟨by omega, by omega⟩, NoErr.zero _, hW, Fr.of _ rfl ⟨rfl, rfl, rfl, rfl, rfl, trivial⟩⟩

set_option maxRecDepth 100000 in
set_option maxHeartbeats 1000000 in
theorem cp7 (w0 : World) (vt vw : Value) (ts : List ByteArray) (ws : List Int) (h : WH w0 vt vw ts ws) (k : Int) : T3 Try.prog (fun a w => ((0 ≤ k ∧ k < ts.length) ∧ (NoErr (teamAt ts) k)) ∧ (IsW w0 w) ∧ Fr 47 [(0, vt), (1, vw), (17, vt), (18, .int .i64 ts.length), (19, .int .i64 k)] a) (sel [1, 1, 0, 1, 4, 4, 1, 1, 0, 4, 0] cwP) (fun a w => ((0 ≤ k ∧ k < ts.length) ∧ (NoErr (teamAt ts) k)) ∧ (IsW w0 w) ∧ Fr 47 [(0, vt), (1, vw), (5, .int .i64 k), (6, .string (geta ts k)), (17, vt), (18, .int .i64 ts.length), (19, .int .i64 k)] a) No 9 (fun a w => IsW w0 w ∧ Fr 47 [(4, .int .i64 (weightsE ts ws))] a) := by
  refine T3.leaf ?_
  rintro Q JS JX JT K hS hK hX hE hT hR a w ⟨hpre, hW, ⟨fr, rfl, q0, q1, q17, q18, q19, _⟩⟩
  obtain ⟨hk0, hk1⟩ := hpre.1
  obtain ⟨_, hcs⟩ := h.t.els encSt_length (by decide)
  rcases hcs with ⟨rfl, h0⟩ | ⟨bz, off, cap, rfl, _, hbz, hnc, hcm, hcell⟩
  · omega
  have t0 := hcell k hk0 hk1 0 _ rfl
  rw [Nat.mul_one, Nat.add_zero] at t0
  clear hcell
  obtain rfl : w = w0 := hW
  rw [fr_cwP, show fr 0 = _ from q0, show fr 1 = _ from q1, show fr 17 = _ from q17, show fr 18 = _ from q18, show fr 19 = _ from q19]
  clear q0 q1 q17 q18 q19
  conv => arg 2; whnf
  go_wp2_with fail
  refine Met.intro (hS _ _ ?_)
  exact ⟨hpre, rfl, Fr.of _ rfl ⟨rfl, rfl, rfl, rfl, rfl, rfl, rfl, trivial⟩⟩

set_option maxRecDepth 100000 in
set_option maxHeartbeats 1000000 in
theorem cp8 (w0 : World) (vt vw : Value) (ts : List ByteArray) (ws : List Int) (h : WH w0 vt vw ts ws) (k : Int) : T3 Try.prog (fun a w => ((0 ≤ k ∧ k < ts.length) ∧ (NoErr (teamAt ts) k)) ∧ (IsW w0 w) ∧ Fr 47 [(0, vt), (1, vw), (5, .int .i64 k), (6, .string (geta ts k)), (17, vt), (18, .int .i64 ts.length), (19, .int .i64 k)] a) (sel [1, 1, 0, 1, 4, 4, 1, 1, 0, 4, 1, 0, 0] cwP) (fun a w => ∃ q, Fr 47 ((26, .bool q) :: [(0, vt), (1, vw), (5, .int .i64 k), (6, .string (geta ts k)), (17, vt), (18, .int .i64 ts.length), (19, .int .i64 k)]) a ∧ ((((0 ≤ k ∧ k < ts.length) ∧ (NoErr (teamAt ts) k)) ∧ q = !keyB (geta ts k)) ∧ IsW w0 w)) No 9 (fun a w => IsW w0 w ∧ Fr 47 [(4, .int .i64 (weightsE ts ws))] a) := by
  refine T3.leaf ?_
  rintro Q JS JX JT K hS hK hX hE hT hR a w ⟨hpre, hW, ⟨fr, rfl, q0, q1, q5, q6, q17, q18, q19, _⟩⟩
  have HK := Lib.hid (key_prog (geta ts k) w (h.z _ (geta_mem hpre.1.1 hpre.1.2)))
  generalize geta ts k = x at *
  generalize keyB x = q at *
  rw [fr_cwP, show fr 0 = _ from q0, show fr 1 = _ from q1, show fr 5 = _ from q5, show fr 6 = _ from q6, show fr 17 = _ from q17, show fr 18 = _ from q18, show fr 19 = _ from q19]
  clear q0 q1 q5 q6 q17 q18 q19
  conv => arg 2; whnf
  go_wp2_with fail
  refine HK.out.mono ?_
  rintro e w1 ⟨rfl, rfl⟩
  go_wp2_with fail
  refine Met.intro (hS _ _ ?_)
  exact ⟨_, Fr.of _ rfl ⟨rfl, rfl, rfl, rfl, rfl, rfl, rfl, rfl, trivial⟩, ⟨hpre, rfl⟩, hW⟩

set_option maxRecDepth 100000 in
set_option maxHeartbeats 1000000 in
theorem cp9 (w0 : World) (vt vw : Value) (ts : List ByteArray) (ws : List Int) (h : WH w0 vt vw ts ws) (k : Int) : T3 Try.prog (fun a w => ((0 ≤ k ∧ k < ts.length) ∧ (NoErr (teamAt ts) k)) ∧ (IsW w0 w) ∧ Fr 47 [(0, vt), (1, vw), (5, .int .i64 k), (6, .string (geta ts k)), (17, vt), (18, .int .i64 ts.length), (19, .int .i64 k)] a) (sel [1, 1, 0, 1, 4, 4, 1, 1, 0, 4, 1, 0, 1, 2, 0] cwP) (fun a w => (IsW w0 w) ∧ Fr 47 [(4, .int .i64 5)] a) No 9 (fun a w => IsW w0 w ∧ Fr 47 [(4, .int .i64 (weightsE ts ws))] a) := by
  refine T3.leaf ?_
  rintro Q JS JX JT K hS hK hX hE hT hR a w ⟨hpre, hW, ⟨fr, rfl, q0, q1, q5, q6, q17, q18, q19, _⟩⟩
  rw [fr_cwP, show fr 0 = _ from q0, show fr 1 = _ from q1, show fr 5 = _ from q5, show fr 6 = _ from q6, show fr 17 = _ from q17, show fr 18 = _ from q18, show fr 19 = _ from q19]
  clear q0 q1 q5 q6 q17 q18 q19
  conv => arg 2; whnf
  go_wp2_with fail
  refine Met.intro (hS _ _ ?_)
  exact ⟨hW, Fr.of _ rfl ⟨rfl, trivial⟩⟩

set_option maxRecDepth 100000 in
set_option maxHeartbeats 1000000 in
theorem cp10 (w0 : World) (vt vw : Value) (ts : List ByteArray) (ws : List Int) (h : WH w0 vt vw ts ws) (k : Int) : T3 Try.prog (fun a w => ((0 ≤ k ∧ k < ts.length) ∧ (NoErr (teamAt ts) k) ∧ keyB (geta ts k) = true) ∧ (IsW w0 w) ∧ Fr 47 [(0, vt), (1, vw), (5, .int .i64 k), (6, .string (geta ts k)), (17, vt), (18, .int .i64 ts.length), (19, .int .i64 k)] a) (sel [1, 1, 0, 1, 4, 4, 1, 1, 0, 4, 1, 1, 0] cwP) (fun a w => ∃ q, Fr 47 ((31, .bool q) :: [(0, vt), (1, vw), (5, .int .i64 k), (6, .string (geta ts k)), (17, vt), (18, .int .i64 ts.length), (19, .int .i64 k)]) a ∧ ((((0 ≤ k ∧ k < ts.length) ∧ (NoErr (teamAt ts) k) ∧ keyB (geta ts k) = true) ∧ q = hasTo ts k (geta ts k)) ∧ IsW w0 w)) No 9 (fun a w => IsW w0 w ∧ Fr 47 [(4, .int .i64 (weightsE ts ws))] a) := by
  refine T3.leaf ?_
  rintro Q JS JX JT K hS hK hX hE hT hR a w ⟨hpre, hW, ⟨fr, rfl, q0, q1, q5, q6, q17, q18, q19, _⟩⟩
  have HP := Lib.hid hpre
  obtain ⟨⟨hk0, hk1⟩, _⟩ := hpre
  obtain ⟨_, hcs⟩ := h.t.els encSt_length (by decide)
  rcases hcs with ⟨rfl, h0⟩ | ⟨bz, off, cap, rfl, _, hbz, hnc, hcm, hcell⟩
  · omega
  have HC := Lib.hid (contains_str _ k.toNat (ts.take k.toNat) (geta ts k) 0 w0 (Row.first encSt_length h.t rfl (by omega)))
  have hbq : (0 : Int) ≤ k ∧ k ≤ ts.length ∧ (ts.length : Int) ≤ cap := by omega
  clear hcell
  obtain rfl : w = w0 := hW
  have HE := Lib.hid (show hasS (ts.take k.toNat) (geta ts k) = hasTo ts k (geta ts k) from rfl)
  rw [HE.out] at HC
  generalize geta ts k = x at *
  generalize hasTo ts k x = q at *
  rw [fr_cwP, show fr 0 = _ from q0, show fr 1 = _ from q1, show fr 5 = _ from q5, show fr 6 = _ from q6, show fr 17 = _ from q17, show fr 18 = _ from q18, show fr 19 = _ from q19]
  clear q0 q1 q5 q6 q17 q18 q19
  conv => arg 2; whnf
  go_wp2_with fail
  refine HC.out.mono ?_
  rintro e w1 ⟨rfl, rfl⟩
  go_wp2_with fail
  have hpre := HP.out
  refine Met.intro (hS _ _ ?_)
  exact ⟨_, Fr.of _ rfl ⟨rfl, rfl, rfl, rfl, rfl, rfl, rfl, rfl, trivial⟩, ⟨hpre, rfl⟩, rfl⟩

set_option maxRecDepth 100000 in
set_option maxHeartbeats 1000000 in
theorem cp11 (w0 : World) (vt vw : Value) (ts : List ByteArray) (ws : List Int) (h : WH w0 vt vw ts ws) (k : Int) : T3 Try.prog (fun a w => ((0 ≤ k ∧ k < ts.length) ∧ (NoErr (teamAt ts) k) ∧ keyB (geta ts k) = true) ∧ (IsW w0 w) ∧ Fr 47 [(0, vt), (1, vw), (5, .int .i64 k), (6, .string (geta ts k)), (17, vt), (18, .int .i64 ts.length), (19, .int .i64 k)] a) (sel [1, 1, 0, 1, 4, 4, 1, 1, 0, 4, 1, 1, 1, 2, 0] cwP) (fun a w => (IsW w0 w) ∧ Fr 47 [(4, .int .i64 6)] a) No 9 (fun a w => IsW w0 w ∧ Fr 47 [(4, .int .i64 (weightsE ts ws))] a) := by
  refine T3.leaf ?_
  rintro Q JS JX JT K hS hK hX hE hT hR a w ⟨hpre, hW, ⟨fr, rfl, q0, q1, q5, q6, q17, q18, q19, _⟩⟩
  rw [fr_cwP, show fr 0 = _ from q0, show fr 1 = _ from q1, show fr 5 = _ from q5, show fr 6 = _ from q6, show fr 17 = _ from q17, show fr 18 = _ from q18, show fr 19 = _ from q19]
  clear q0 q1 q5 q6 q17 q18 q19
  conv => arg 2; whnf
  go_wp2_with fail
  refine Met.intro (hS _ _ ?_)
  exact ⟨hW, Fr.of _ rfl ⟨rfl, trivial⟩⟩

set_option maxRecDepth 100000 in
set_option maxHeartbeats 1000000 in
theorem cpb (w0 : World) (vt vw : Value) (ts : List ByteArray) (ws : List Int) (h : WH w0 vt vw ts ws) (k : Int) (hok : WOk1 ts) : T3 Try.prog (fun a w => ((0 ≤ k ∧ k < ts.length) ∧ (NoErr (teamAt ts) k)) ∧ (IsW w0 w) ∧ Fr 47 [(0, vt), (1, vw), (17, vt), (18, .int .i64 ts.length), (19, .int .i64 k)] a) (sel [1, 1, 0, 1, 4, 4, 1, 1, 0] cwP) (fun a w => ((0 ≤ k ∧ k < ts.length) ∧ (NoErr (teamAt ts) (k + 1))) ∧ (IsW w0 w) ∧ Fr 47 [(0, vt), (1, vw), (17, vt), (18, .int .i64 ts.length), (19, .int .i64 k)] a) No 9 (fun a w => IsW w0 w ∧ Fr 47 [(4, .int .i64 (weightsE ts ws))] a) := by
  refine T3.block (id' := 2) (c := (sel [1, 1, 0, 1, 4, 4, 1, 1, 0, 4] cwP)) (by decide) ?_
  refine T3.seq (s := (sel [1, 1, 0, 1, 4, 4, 1, 1, 0, 4, 0] cwP)) (c := (sel [1, 1, 0, 1, 4, 4, 1, 1, 0, 4, 1] cwP)) (cp7 w0 vt vw ts ws h k) ?_
  refine T3.seq (s := (sel [1, 1, 0, 1, 4, 4, 1, 1, 0, 4, 1, 0] cwP)) (c := (sel [1, 1, 0, 1, 4, 4, 1, 1, 0, 4, 1, 1] cwP)) (S := (fun a w => ((0 ≤ k ∧ k < ts.length) ∧ (NoErr (teamAt ts) k) ∧ keyB (geta ts k) = true) ∧ (IsW w0 w) ∧ Fr 47 [(0, vt), (1, vw), (5, .int .i64 k), (6, .string (geta ts k)), (17, vt), (18, .int .i64 ts.length), (19, .int .i64 k)] a)) ?_ ?_
  · refine T3.test (s := (sel [1, 1, 0, 1, 4, 4, 1, 1, 0, 4, 1, 0, 0] cwP)) (x := (sel [1, 1, 0, 1, 4, 4, 1, 1, 0, 4, 1, 0, 1, 2] cwP)) (y := .skip) (C := fun q => (((0 ≤ k ∧ k < ts.length) ∧ (NoErr (teamAt ts) k)) ∧ q = !keyB (geta ts k))) (W := fun w => IsW w0 w) (by decide) (cp8 w0 vt vw ts ws h k) ?_ (T3.skip ?_)
    · refine T3.seq (s := (sel [1, 1, 0, 1, 4, 4, 1, 1, 0, 4, 1, 0, 1, 2, 0] cwP)) (c := .ret) (t3_seqx (p := ((0 ≤ k ∧ k < ts.length) ∧ (NoErr (teamAt ts) k)) ∧ keyB (geta ts k) = false) (cp9 w0 vt vw ts ws h k) ?_) (T3.ret ?_)
      · rintro a w ⟨hF, ⟨hp, hq⟩, hW⟩
        exact ⟨⟨hp, by simpa using hq.symm⟩, hp, hW, hF.tail⟩
      · rintro a w ⟨⟨hp, hkb⟩, hW, hF⟩
        have e : teamAt ts k = 5 := by unfold teamAt; rw [if_pos hkb]
        exact ⟨hW, by rw [we_team hok hp.1.1 hp.1.2 hp.2 (by rw [e]; decide), e]; exact hF⟩
    · rintro a w ⟨⟨hp, hq⟩, hW, hF⟩
      exact ⟨⟨hp.1, hp.2, by simpa using hq.symm⟩, hW, hF⟩
  · refine T3.test (s := (sel [1, 1, 0, 1, 4, 4, 1, 1, 0, 4, 1, 1, 0] cwP)) (x := (sel [1, 1, 0, 1, 4, 4, 1, 1, 0, 4, 1, 1, 1, 2] cwP)) (y := .skip) (C := fun q => (((0 ≤ k ∧ k < ts.length) ∧ (NoErr (teamAt ts) k) ∧ keyB (geta ts k) = true) ∧ q = hasTo ts k (geta ts k))) (W := fun w => IsW w0 w) (by decide) ((cp10 w0 vt vw ts ws h k).pre (fun a w q => ⟨⟨q.1.1, q.1.2.1, q.1.2.2⟩, q.2⟩)) ?_ (T3.skip ?_)
    · refine T3.seq (s := (sel [1, 1, 0, 1, 4, 4, 1, 1, 0, 4, 1, 1, 1, 2, 0] cwP)) (c := .ret) (t3_seqx (p := ((0 ≤ k ∧ k < ts.length) ∧ (NoErr (teamAt ts) k) ∧ keyB (geta ts k) = true) ∧ hasTo ts k (geta ts k) = true) (cp11 w0 vt vw ts ws h k) ?_) (T3.ret ?_)
      · rintro a w ⟨hF, ⟨hp, hq⟩, hW⟩
        exact ⟨⟨hp, hq.symm⟩, hp, hW, hF.tail⟩
      · rintro a w ⟨⟨hp, hh⟩, hW, hF⟩
        have e : teamAt ts k = 6 := by unfold teamAt; rw [if_neg (by rw [hp.2.2]; decide), if_pos hh]
        exact ⟨hW, by rw [we_team hok hp.1.1 hp.1.2 hp.2.1 (by rw [e]; decide), e]; exact hF⟩
    · rintro a w ⟨⟨hp, hq⟩, hW, hF⟩
      refine ⟨⟨hp.1, hp.2.1.step ?_⟩, hW, hF.sub (by simp)⟩
      unfold teamAt
      rw [if_neg (by rw [hp.2.2]; decide), if_neg (by rw [← hq]; decide)]

def cptI (w0 : World) (vt vw : Value) (ts : List ByteArray) (ws : List Int) (h : WH w0 vt vw ts ws) (hok : WOk1 ts) (k : Int) (a : Act) (w : World) : Prop := (0 ≤ k ∧ k ≤ ts.length) ∧ (NoErr (teamAt ts) k) ∧ (IsW w0 w) ∧ Fr 47 [(0, vt), (1, vw), (17, vt), (18, .int .i64 ts.length), (19, .int .i64 k)] a
set_option maxRecDepth 100000 in
set_option maxHeartbeats 1000000 in
theorem cptt (w0 : World) (vt vw : Value) (ts : List ByteArray) (ws : List Int) (h : WH w0 vt vw ts ws) (hok : WOk1 ts) (k : Int) : T3 Try.prog (fun a w => cptI w0 vt vw ts ws h hok k a w) (sel [1, 1, 0, 1, 4, 4, 0] cwP) (fun a w => ∃ q, Fr 47 ((20, .bool q) :: [(19, .int .i64 k)]) a ∧ ((q = true ↔ k < ts.length) ∧ cptI w0 vt vw ts ws h hok k a w)) No 9 (fun a w => IsW w0 w ∧ Fr 47 [(4, .int .i64 (weightsE ts ws))] a) := by
  refine T3.leaf ?_
  rintro Q JS JX JT K hS hK hX hE hT hR a w ⟨hk, hpre, hW, ⟨fr, rfl, q0, q1, q17, q18, q19, _⟩⟩
  have hl := h.tn
  rw [fr_cwP, show fr 0 = _ from q0, show fr 1 = _ from q1, show fr 17 = _ from q17, show fr 18 = _ from q18, show fr 19 = _ from q19]
  clear q0 q1 q17 q18 q19
  conv => arg 2; whnf
  by_cases hlt : k < ts.length
  · go_wp2_with fail
    refine Met.intro (hS _ _ ?_)
    exact ⟨true, Fr.of _ rfl ⟨rfl, rfl, trivial⟩, ⟨fun _ => hlt, fun _ => rfl⟩, hk, hpre, hW, Fr.of _ rfl ⟨rfl, rfl, rfl, rfl, rfl, trivial⟩⟩
  · have hpb : decide (k < (ts.length : Int)) = false := by simp; omega
    go_wp2_with fail
    refine Met.intro (hS _ _ ?_)
    exact ⟨false, Fr.of _ rfl ⟨rfl, rfl, trivial⟩, ⟨(fun h => by cases h), fun h => absurd h (by omega)⟩, hk, hpre, hW, Fr.of _ rfl ⟨rfl, rfl, rfl, rfl, rfl, trivial⟩⟩

set_option maxRecDepth 100000 in
set_option maxHeartbeats 1000000 in
theorem cptn (w0 : World) (vt vw : Value) (ts : List ByteArray) (ws : List Int) (h : WH w0 vt vw ts ws) (hok : WOk1 ts) (k : Int) : T3 Try.prog (fun a w => (0 ≤ k ∧ k < ts.length) ∧ (NoErr (teamAt ts) (k + 1)) ∧ (IsW w0 w) ∧ Fr 47 [(0, vt), (1, vw), (17, vt), (18, .int .i64 ts.length), (19, .int .i64 k)] a) (sel [1, 1, 0, 1, 4, 4, 1, 1, 1] cwP) (fun a w => cptI w0 vt vw ts ws h hok (k + 1) a w) No 9 (fun a w => IsW w0 w ∧ Fr 47 [(4, .int .i64 (weightsE ts ws))] a) := by
  refine T3.leaf ?_
  rintro Q JS JX JT K hS hK hX hE hT hR a w ⟨hk, hpre, hW, ⟨fr, rfl, q0, q1, q17, q18, q19, _⟩⟩
  obtain ⟨hk0, hk1⟩ := hk
  have hl := h.tn
  rw [fr_cwP, show fr 0 = _ from q0, show fr 1 = _ from q1, show fr 17 = _ from q17, show fr 18 = _ from q18, show fr 19 = _ from q19]
  clear q0 q1 q17 q18 q19
  conv => arg 2; whnf
  go_wp2_with fail
  refine Met.intro (hS _ _ ?_)
  exact ⟨⟨by omega, by omega⟩, hpre, hW, Fr.of _ rfl ⟨rfl, rfl, rfl, rfl, rfl, trivial⟩⟩

set_option maxRecDepth 100000 in
set_option maxHeartbeats 1000000 in
theorem cptloop (w0 : World) (vt vw : Value) (ts : List ByteArray) (ws : List Int) (h : WH w0 vt vw ts ws) (hok : WOk1 ts) : T3 Try.prog (fun a w => cptI w0 vt vw ts ws h hok 0 a w) (sel [1, 1, 0, 1] cwP) (fun a w => (NoErr (teamAt ts) ts.length) ∧ (IsW w0 w) ∧ Fr 47 [(0, vt), (1, vw)] a) No 9 (fun a w => IsW w0 w ∧ Fr 47 [(4, .int .i64 (weightsE ts ws))] a) := by
  refine T3.loop (c := (sel [1, 1, 0, 1, 4, 4] cwP)) (fun n a w => ∃ k : Int, (n : Int) = ts.length - k ∧ cptI w0 vt vw ts ws h hok k a w) (fun a w h => ⟨(ts.length : Int).toNat, 0, by have := h.1.2; omega, h⟩) (fun n => T3.ex fun k => T3.pure fun hn => ?_)
  refine T3.seq (s := (sel [1, 1, 0, 1, 4, 4, 0] cwP)) (c := (sel [1, 1, 0, 1, 4, 4, 1] cwP)) ((cptt w0 vt vw ts ws h hok k).noX) ?_
  refine T3.seq (s := (sel [1, 1, 0, 1, 4, 4, 1, 0] cwP)) (c := (sel [1, 1, 0, 1, 4, 4, 1, 1] cwP)) (S := fun a w => (0 ≤ k ∧ k < ts.length) ∧ (NoErr (teamAt ts) k) ∧ (IsW w0 w) ∧ Fr 47 [(0, vt), (1, vw), (17, vt), (18, .int .i64 ts.length), (19, .int .i64 k)] a) ?_ (T3.seq (s := (sel [1, 1, 0, 1, 4, 4, 1, 1, 0] cwP)) (c := (sel [1, 1, 0, 1, 4, 4, 1, 1, 1] cwP)) (S := fun a w => (0 ≤ k ∧ k < ts.length) ∧ (NoErr (teamAt ts) (k + 1)) ∧ (IsW w0 w) ∧ Fr 47 [(0, vt), (1, vw), (17, vt), (18, .int .i64 ts.length), (19, .int .i64 k)] a) (T3.noX (T3.mono (R' := fun a w => (0 ≤ k ∧ k < ts.length) ∧ (NoErr (teamAt ts) k) ∧ (IsW w0 w) ∧ Fr 47 [(0, vt), (1, vw), (17, vt), (18, .int .i64 ts.length), (19, .int .i64 k)] a) (S' := fun a w => (0 ≤ k ∧ k < ts.length) ∧ (NoErr (teamAt ts) (k + 1)) ∧ (IsW w0 w) ∧ Fr 47 [(0, vt), (1, vw), (17, vt), (18, .int .i64 ts.length), (19, .int .i64 k)] a) (cpb w0 vt vw ts ws h k hok) (fun a w ⟨hk, hp, hI⟩ => ⟨⟨hk, hp⟩, hI⟩) (fun a w ⟨⟨hk, hp⟩, hI⟩ => ⟨hk, hp, hI⟩) (fun _ _ q => q) (fun _ _ q => q))) ?_)
  · refine T3.cond (o := .tmp 20) (x := .skip) (y := .exit 1) (fun a w => k < ts.length ∧ cptI w0 vt vw ts ws h hok k a w) (fun a w => ¬ k < ts.length ∧ cptI w0 vt vw ts ws h hok k a w) ?_ (T3.skip ?_) (T3.exit ?_)
    · rintro a w ⟨q, hF, hq, hI⟩
      have he := hF.eval 20 (by decide) (v := .bool q) (by simp)
      cases q
      · exact .inr ⟨he, (fun h => by have := hq.2 h; cases this), hI⟩
      · exact .inl ⟨he, hq.1 rfl, hI⟩
    · rintro a w ⟨hlt, hk, hI⟩
      exact ⟨⟨hk.1, hlt⟩, hI⟩
    · rintro a w ⟨hlt, hk, hI⟩
      obtain rfl : k = ts.length := by omega
      exact ⟨hI.1, hI.2.1, hI.2.2.sub (by simp)⟩
  · intro a w hx
    have hk := hx.1
    exact (((cptn w0 vt vw ts ws h hok k).noX).post (fun a w q => ⟨n - 1, by omega, k + 1, by omega, q⟩)) a w hx
set_option maxRecDepth 100000 in
set_option maxHeartbeats 1000000 in
theorem cp13 (w0 : World) (vt vw : Value) (ts : List ByteArray) (ws : List Int) (h : WH w0 vt vw ts ws) : T3 Try.prog (fun a w => (NoErr (teamAt ts) ts.length) ∧ (IsW w0 w) ∧ Fr 47 [(0, vt), (1, vw)] a) (sel [1, 1, 1, 0, 0] cwP) (fun a w => ∃ q, Fr 47 ((37, .bool q) :: [(0, vt), (1, vw)]) a ∧ (((NoErr (teamAt ts) ts.length) ∧ q = decide ((ws.length : Int) ≠ ts.length)) ∧ IsW w0 w)) No 9 (fun a w => IsW w0 w ∧ Fr 47 [(4, .int .i64 (weightsE ts ws))] a) := by
  refine T3.leaf ?_
  rintro Q JS JX JT K hS hK hX hE hT hR a w ⟨hpre, hW, ⟨fr, rfl, q0, q1, _⟩⟩
  obtain ⟨p1, c1, hv1⟩ := h.t.shape
  subst hv1
  obtain ⟨p2, c2, hv2⟩ := h.w.shape
  subst hv2
  have hpp := Lib.hid hpre
  clear hpre
  have hb1 : ((ws.length : Int) != ts.length) = decide ((ws.length : Int) ≠ ts.length) := by by_cases hq : ((ws.length : Int) = ts.length) <;> simp [hq]
  generalize decide ((ws.length : Int) ≠ ts.length) = q at *
  rw [fr_cwP, show fr 0 = _ from q0, show fr 1 = _ from q1]
  clear q0 q1
  conv => arg 2; whnf
  go_wp2_with fail
  have hpre := hpp.out
  refine Met.intro (hS _ _ ?_)
  exact ⟨_, Fr.of _ rfl ⟨rfl, rfl, rfl, trivial⟩, ⟨hpre, rfl⟩, hW⟩

set_option maxRecDepth 100000 in
set_option maxHeartbeats 1000000 in
theorem cp14 (w0 : World) (vt vw : Value) (ts : List ByteArray) (ws : List Int) (h : WH w0 vt vw ts ws) : T3 Try.prog (fun a w => (NoErr (teamAt ts) ts.length) ∧ (IsW w0 w) ∧ Fr 47 [(0, vt), (1, vw)] a) (sel [1, 1, 1, 0, 1, 2, 0] cwP) (fun a w => (IsW w0 w) ∧ Fr 47 [(4, .int .i64 3)] a) No 9 (fun a w => IsW w0 w ∧ Fr 47 [(4, .int .i64 (weightsE ts ws))] a) := by
  refine T3.leaf ?_
  rintro Q JS JX JT K hS hK hX hE hT hR a w ⟨hpre, hW, ⟨fr, rfl, q0, q1, _⟩⟩
  rw [fr_cwP, show fr 0 = _ from q0, show fr 1 = _ from q1]
  clear q0 q1
  conv => arg 2; whnf
  go_wp2_with fail
  refine Met.intro (hS _ _ ?_)
  exact ⟨hW, Fr.of _ rfl ⟨rfl, trivial⟩⟩

set_option maxRecDepth 100000 in
set_option maxHeartbeats 1000000 in
theorem cp15 (w0 : World) (vt vw : Value) (ts : List ByteArray) (ws : List Int) (h : WH w0 vt vw ts ws) : T3 Try.prog (fun a w => (IsW w0 w) ∧ Fr 47 [(0, vt), (1, vw)] a) (sel [1, 1, 1, 1, 0, 0] cwP) (fun a w => (0 ≤ (0 : Int) ∧ (0 : Int) ≤ ws.length) ∧ (NoErr (wgtAt ws) 0) ∧ (IsW w0 w) ∧ Fr 47 [(38, vw), (39, .int .i64 ws.length), (40, .int .i64 0)] a) No 9 (fun a w => IsW w0 w ∧ Fr 47 [(4, .int .i64 (weightsE ts ws))] a) := by
  refine T3.leaf ?_
  rintro Q JS JX JT K hS hK hX hE hT hR a w ⟨hW, ⟨fr, rfl, q0, q1, _⟩⟩
  obtain ⟨p1, c1, hv1⟩ := h.t.shape
  subst hv1
  obtain ⟨p2, c2, hv2⟩ := h.w.shape
  subst hv2
  rw [fr_cwP, show fr 0 = _ from q0, show fr 1 = _ from q1]
  clear q0 q1
  conv => arg 2; whnf
  go_wp2_with fail
  refine Met.intro (hS _ _ ?_)
  exact ⟨⟨by omega, by omega⟩, NoErr.zero _, hW, Fr.of _ rfl ⟨rfl, rfl, rfl, trivial⟩⟩

set_option maxRecDepth 100000 in
set_option maxHeartbeats 1000000 in
theorem cp17 (w0 : World) (vt vw : Value) (ts : List ByteArray) (ws : List Int) (h : WH w0 vt vw ts ws) (k : Int) : T3 Try.prog (fun a w => ((0 ≤ k ∧ k < ws.length) ∧ (NoErr (wgtAt ws) k)) ∧ (IsW w0 w) ∧ Fr 47 [(38, vw), (39, .int .i64 ws.length), (40, .int .i64 k)] a) (sel [1, 1, 1, 1, 0, 1, 4, 4, 1, 1, 0, 4, 0] cwP) (fun a w => ((0 ≤ k ∧ k < ws.length) ∧ (NoErr (wgtAt ws) k)) ∧ (IsW w0 w) ∧ Fr 47 [(8, .int .i64 (geti ws k)), (38, vw), (39, .int .i64 ws.length), (40, .int .i64 k)] a) No 9 (fun a w => IsW w0 w ∧ Fr 47 [(4, .int .i64 (weightsE ts ws))] a) := by
  refine T3.leaf ?_
  rintro Q JS JX JT K hS hK hX hE hT hR a w ⟨hpre, hW, ⟨fr, rfl, q38, q39, q40, _⟩⟩
  obtain ⟨hk0, hk1⟩ := hpre.1
  obtain ⟨_, hcs⟩ := h.w.ints
  rcases hcs with ⟨rfl, h0⟩ | ⟨bz, off, cap, rfl, _, hbz, hnc, hcm, hcell⟩
  · omega
  have t0 := hcell k hk0 hk1
  clear hcell
  obtain rfl : w = w0 := hW
  rw [fr_cwP, show fr 38 = _ from q38, show fr 39 = _ from q39, show fr 40 = _ from q40]
  clear q38 q39 q40
  conv => arg 2; whnf
  go_wp2_with fail
  refine Met.intro (hS _ _ ?_)
  exact ⟨hpre, rfl, Fr.of _ rfl ⟨rfl, rfl, rfl, rfl, trivial⟩⟩

set_option maxRecDepth 100000 in
set_option maxHeartbeats 1000000 in
theorem cp18 (w0 : World) (vt vw : Value) (ts : List ByteArray) (ws : List Int) (h : WH w0 vt vw ts ws) (k : Int) : T3 Try.prog (fun a w => ((0 ≤ k ∧ k < ws.length) ∧ (NoErr (wgtAt ws) k)) ∧ (IsW w0 w) ∧ Fr 47 [(8, .int .i64 (geti ws k)), (38, vw), (39, .int .i64 ws.length), (40, .int .i64 k)] a) (sel [1, 1, 1, 1, 0, 1, 4, 4, 1, 1, 0, 4, 1, 0] cwP) (fun a w => ∃ q, Fr 47 ((45, .bool q) :: [(8, .int .i64 (geti ws k)), (38, vw), (39, .int .i64 ws.length), (40, .int .i64 k)]) a ∧ ((((0 ≤ k ∧ k < ws.length) ∧ (NoErr (wgtAt ws) k)) ∧ q = outB (geti ws k) 1 1000) ∧ IsW w0 w)) No 9 (fun a w => IsW w0 w ∧ Fr 47 [(4, .int .i64 (weightsE ts ws))] a) := by
  refine T3.leaf ?_
  rintro Q JS JX JT K hS hK hX hE hT hR a w ⟨hpre, hW, ⟨fr, rfl, q8, q38, q39, q40, _⟩⟩
  have HK := Lib.hid (out_any (geti ws k) 1 1000 w)
  generalize geti ws k = x at *
  generalize outB x 1 1000 = q at *
  rw [fr_cwP, show fr 8 = _ from q8, show fr 38 = _ from q38, show fr 39 = _ from q39, show fr 40 = _ from q40]
  clear q8 q38 q39 q40
  conv => arg 2; whnf
  go_wp2_with fail
  refine HK.out.mono ?_
  rintro e w1 ⟨rfl, rfl⟩
  go_wp2_with fail
  refine Met.intro (hS _ _ ?_)
  exact ⟨_, Fr.of _ rfl ⟨rfl, rfl, rfl, rfl, rfl, trivial⟩, ⟨hpre, rfl⟩, hW⟩

set_option maxRecDepth 100000 in
set_option maxHeartbeats 1000000 in
theorem cp19 (w0 : World) (vt vw : Value) (ts : List ByteArray) (ws : List Int) (h : WH w0 vt vw ts ws) (k : Int) : T3 Try.prog (fun a w => ((0 ≤ k ∧ k < ws.length) ∧ (NoErr (wgtAt ws) k)) ∧ (IsW w0 w) ∧ Fr 47 [(8, .int .i64 (geti ws k)), (38, vw), (39, .int .i64 ws.length), (40, .int .i64 k)] a) (sel [1, 1, 1, 1, 0, 1, 4, 4, 1, 1, 0, 4, 1, 1, 2, 0] cwP) (fun a w => (IsW w0 w) ∧ Fr 47 [(4, .int .i64 1)] a) No 9 (fun a w => IsW w0 w ∧ Fr 47 [(4, .int .i64 (weightsE ts ws))] a) := by
  refine T3.leaf ?_
  rintro Q JS JX JT K hS hK hX hE hT hR a w ⟨hpre, hW, ⟨fr, rfl, q8, q38, q39, q40, _⟩⟩
  rw [fr_cwP, show fr 8 = _ from q8, show fr 38 = _ from q38, show fr 39 = _ from q39, show fr 40 = _ from q40]
  clear q8 q38 q39 q40
  conv => arg 2; whnf
  go_wp2_with fail
  refine Met.intro (hS _ _ ?_)
  exact ⟨hW, Fr.of _ rfl ⟨rfl, trivial⟩⟩

set_option maxRecDepth 100000 in
set_option maxHeartbeats 1000000 in
theorem cpv (w0 : World) (vt vw : Value) (ts : List ByteArray) (ws : List Int) (h : WH w0 vt vw ts ws) (k : Int) (hok : WOk1 ts) (hfx : WOk2 ts ws) : T3 Try.prog (fun a w => ((0 ≤ k ∧ k < ws.length) ∧ (NoErr (wgtAt ws) k)) ∧ (IsW w0 w) ∧ Fr 47 [(38, vw), (39, .int .i64 ws.length), (40, .int .i64 k)] a) (sel [1, 1, 1, 1, 0, 1, 4, 4, 1, 1, 0] cwP) (fun a w => ((0 ≤ k ∧ k < ws.length) ∧ (NoErr (wgtAt ws) (k + 1))) ∧ (IsW w0 w) ∧ Fr 47 [(38, vw), (39, .int .i64 ws.length), (40, .int .i64 k)] a) No 9 (fun a w => IsW w0 w ∧ Fr 47 [(4, .int .i64 (weightsE ts ws))] a) := by
  refine T3.block (id' := 4) (c := (sel [1, 1, 1, 1, 0, 1, 4, 4, 1, 1, 0, 4] cwP)) (by decide) ?_
  refine T3.seq (s := (sel [1, 1, 1, 1, 0, 1, 4, 4, 1, 1, 0, 4, 0] cwP)) (c := (sel [1, 1, 1, 1, 0, 1, 4, 4, 1, 1, 0, 4, 1] cwP)) (cp17 w0 vt vw ts ws h k) ?_
  refine T3.test (s := (sel [1, 1, 1, 1, 0, 1, 4, 4, 1, 1, 0, 4, 1, 0] cwP)) (x := (sel [1, 1, 1, 1, 0, 1, 4, 4, 1, 1, 0, 4, 1, 1, 2] cwP)) (y := .skip) (C := fun q => (((0 ≤ k ∧ k < ws.length) ∧ (NoErr (wgtAt ws) k)) ∧ q = outB (geti ws k) 1 1000)) (W := fun w => IsW w0 w) (by decide) (cp18 w0 vt vw ts ws h k) ?_ (T3.skip ?_)
  · refine T3.seq (s := (sel [1, 1, 1, 1, 0, 1, 4, 4, 1, 1, 0, 4, 1, 1, 2, 0] cwP)) (c := .ret) (t3_seqx (p := ((0 ≤ k ∧ k < ws.length) ∧ (NoErr (wgtAt ws) k)) ∧ outB (geti ws k) 1 1000 = true) (cp19 w0 vt vw ts ws h k) ?_) (T3.ret ?_)
    · rintro a w ⟨hF, ⟨hp, hq⟩, hW⟩
      exact ⟨⟨hp, hq.symm⟩, hp, hW, hF.tail⟩
    · rintro a w ⟨⟨hp, hh⟩, hW, hF⟩
      have e : wgtAt ws k = 1 := by unfold wgtAt; rw [if_pos hh]
      exact ⟨hW, by rw [we_last hok hfx.1 hfx.2, firstErr_hit hp.2 hp.1.1 hp.1.2 (by rw [e]; decide), e]; exact hF⟩
  · rintro a w ⟨⟨hp, hq⟩, hW, hF⟩
    refine ⟨⟨hp.1, hp.2.step ?_⟩, hW, hF.sub (by simp)⟩
    unfold wgtAt
    rw [if_neg (by rw [← hq]; decide)]

def cpwI (w0 : World) (vt vw : Value) (ts : List ByteArray) (ws : List Int) (h : WH w0 vt vw ts ws) (hok : WOk1 ts) (hfx : WOk2 ts ws) (k : Int) (a : Act) (w : World) : Prop := (0 ≤ k ∧ k ≤ ws.length) ∧ (NoErr (wgtAt ws) k) ∧ (IsW w0 w) ∧ Fr 47 [(38, vw), (39, .int .i64 ws.length), (40, .int .i64 k)] a
set_option maxRecDepth 100000 in
set_option maxHeartbeats 1000000 in
theorem cpwt (w0 : World) (vt vw : Value) (ts : List ByteArray) (ws : List Int) (h : WH w0 vt vw ts ws) (hok : WOk1 ts) (hfx : WOk2 ts ws) (k : Int) : T3 Try.prog (fun a w => cpwI w0 vt vw ts ws h hok hfx k a w) (sel [1, 1, 1, 1, 0, 1, 4, 4, 0] cwP) (fun a w => ∃ q, Fr 47 ((41, .bool q) :: [(40, .int .i64 k)]) a ∧ ((q = true ↔ k < ws.length) ∧ cpwI w0 vt vw ts ws h hok hfx k a w)) No 9 (fun a w => IsW w0 w ∧ Fr 47 [(4, .int .i64 (weightsE ts ws))] a) := by
  refine T3.leaf ?_
  rintro Q JS JX JT K hS hK hX hE hT hR a w ⟨hk, hpre, hW, ⟨fr, rfl, q38, q39, q40, _⟩⟩
  have hl := h.wn
  rw [fr_cwP, show fr 38 = _ from q38, show fr 39 = _ from q39, show fr 40 = _ from q40]
  clear q38 q39 q40
  conv => arg 2; whnf
  by_cases hlt : k < ws.length
  · go_wp2_with fail
    refine Met.intro (hS _ _ ?_)
    exact ⟨true, Fr.of _ rfl ⟨rfl, rfl, trivial⟩, ⟨fun _ => hlt, fun _ => rfl⟩, hk, hpre, hW, Fr.of _ rfl ⟨rfl, rfl, rfl, trivial⟩⟩
  · have hpb : decide (k < (ws.length : Int)) = false := by simp; omega
    go_wp2_with fail
    refine Met.intro (hS _ _ ?_)
    exact ⟨false, Fr.of _ rfl ⟨rfl, rfl, trivial⟩, ⟨(fun h => by cases h), fun h => absurd h (by omega)⟩, hk, hpre, hW, Fr.of _ rfl ⟨rfl, rfl, rfl, trivial⟩⟩

set_option maxRecDepth 100000 in
set_option maxHeartbeats 1000000 in
theorem cpwn (w0 : World) (vt vw : Value) (ts : List ByteArray) (ws : List Int) (h : WH w0 vt vw ts ws) (hok : WOk1 ts) (hfx : WOk2 ts ws) (k : Int) : T3 Try.prog (fun a w => (0 ≤ k ∧ k < ws.length) ∧ (NoErr (wgtAt ws) (k + 1)) ∧ (IsW w0 w) ∧ Fr 47 [(38, vw), (39, .int .i64 ws.length), (40, .int .i64 k)] a) (sel [1, 1, 1, 1, 0, 1, 4, 4, 1, 1, 1] cwP) (fun a w => cpwI w0 vt vw ts ws h hok hfx (k + 1) a w) No 9 (fun a w => IsW w0 w ∧ Fr 47 [(4, .int .i64 (weightsE ts ws))] a) := by
  refine T3.leaf ?_
  rintro Q JS JX JT K hS hK hX hE hT hR a w ⟨hk, hpre, hW, ⟨fr, rfl, q38, q39, q40, _⟩⟩
  obtain ⟨hk0, hk1⟩ := hk
  have hl := h.wn
  rw [fr_cwP, show fr 38 = _ from q38, show fr 39 = _ from q39, show fr 40 = _ from q40]
  clear q38 q39 q40
  conv => arg 2; whnf
  go_wp2_with fail
  refine Met.intro (hS _ _ ?_)
  exact ⟨⟨by omega, by omega⟩, hpre, hW, Fr.of _ rfl ⟨rfl, rfl, rfl, trivial⟩⟩

set_option maxRecDepth 100000 in
set_option maxHeartbeats 1000000 in
theorem cpwloop (w0 : World) (vt vw : Value) (ts : List ByteArray) (ws : List Int) (h : WH w0 vt vw ts ws) (hok : WOk1 ts) (hfx : WOk2 ts ws) : T3 Try.prog (fun a w => cpwI w0 vt vw ts ws h hok hfx 0 a w) (sel [1, 1, 1, 1, 0, 1] cwP) (fun a w => (NoErr (wgtAt ws) ws.length) ∧ (IsW w0 w) ∧ Fr 47 [] a) No 9 (fun a w => IsW w0 w ∧ Fr 47 [(4, .int .i64 (weightsE ts ws))] a) := by
  refine T3.loop (c := (sel [1, 1, 1, 1, 0, 1, 4, 4] cwP)) (fun n a w => ∃ k : Int, (n : Int) = ws.length - k ∧ cpwI w0 vt vw ts ws h hok hfx k a w) (fun a w h => ⟨(ws.length : Int).toNat, 0, by have := h.1.2; omega, h⟩) (fun n => T3.ex fun k => T3.pure fun hn => ?_)
  refine T3.seq (s := (sel [1, 1, 1, 1, 0, 1, 4, 4, 0] cwP)) (c := (sel [1, 1, 1, 1, 0, 1, 4, 4, 1] cwP)) ((cpwt w0 vt vw ts ws h hok hfx k).noX) ?_
  refine T3.seq (s := (sel [1, 1, 1, 1, 0, 1, 4, 4, 1, 0] cwP)) (c := (sel [1, 1, 1, 1, 0, 1, 4, 4, 1, 1] cwP)) (S := fun a w => (0 ≤ k ∧ k < ws.length) ∧ (NoErr (wgtAt ws) k) ∧ (IsW w0 w) ∧ Fr 47 [(38, vw), (39, .int .i64 ws.length), (40, .int .i64 k)] a) ?_ (T3.seq (s := (sel [1, 1, 1, 1, 0, 1, 4, 4, 1, 1, 0] cwP)) (c := (sel [1, 1, 1, 1, 0, 1, 4, 4, 1, 1, 1] cwP)) (S := fun a w => (0 ≤ k ∧ k < ws.length) ∧ (NoErr (wgtAt ws) (k + 1)) ∧ (IsW w0 w) ∧ Fr 47 [(38, vw), (39, .int .i64 ws.length), (40, .int .i64 k)] a) (T3.noX (T3.mono (R' := fun a w => (0 ≤ k ∧ k < ws.length) ∧ (NoErr (wgtAt ws) k) ∧ (IsW w0 w) ∧ Fr 47 [(38, vw), (39, .int .i64 ws.length), (40, .int .i64 k)] a) (S' := fun a w => (0 ≤ k ∧ k < ws.length) ∧ (NoErr (wgtAt ws) (k + 1)) ∧ (IsW w0 w) ∧ Fr 47 [(38, vw), (39, .int .i64 ws.length), (40, .int .i64 k)] a) (cpv w0 vt vw ts ws h k hok hfx) (fun a w ⟨hk, hp, hI⟩ => ⟨⟨hk, hp⟩, hI⟩) (fun a w ⟨⟨hk, hp⟩, hI⟩ => ⟨hk, hp, hI⟩) (fun _ _ q => q) (fun _ _ q => q))) ?_)
  · refine T3.cond (o := .tmp 41) (x := .skip) (y := .exit 3) (fun a w => k < ws.length ∧ cpwI w0 vt vw ts ws h hok hfx k a w) (fun a w => ¬ k < ws.length ∧ cpwI w0 vt vw ts ws h hok hfx k a w) ?_ (T3.skip ?_) (T3.exit ?_)
    · rintro a w ⟨q, hF, hq, hI⟩
      have he := hF.eval 41 (by decide) (v := .bool q) (by simp)
      cases q
      · exact .inr ⟨he, (fun h => by have := hq.2 h; cases this), hI⟩
      · exact .inl ⟨he, hq.1 rfl, hI⟩
    · rintro a w ⟨hlt, hk, hI⟩
      exact ⟨⟨hk.1, hlt⟩, hI⟩
    · rintro a w ⟨hlt, hk, hI⟩
      obtain rfl : k = ws.length := by omega
      exact ⟨hI.1, hI.2.1, hI.2.2.sub (by simp)⟩
  · intro a w hx
    have hk := hx.1
    exact (((cpwn w0 vt vw ts ws h hok hfx k).noX).post (fun a w q => ⟨n - 1, by omega, k + 1, by omega, q⟩)) a w hx
set_option maxRecDepth 100000 in
set_option maxHeartbeats 1000000 in
theorem cp21 (w0 : World) (vt vw : Value) (ts : List ByteArray) (ws : List Int) (h : WH w0 vt vw ts ws) : T3 Try.prog (fun a w => (NoErr (wgtAt ws) ws.length) ∧ (IsW w0 w) ∧ Fr 47 [] a) (sel [1, 1, 1, 1, 1, 0] cwP) (fun a w => (NoErr (wgtAt ws) ws.length) ∧ (IsW w0 w) ∧ Fr 47 [(4, .int .i64 0)] a) No 9 (fun a w => IsW w0 w ∧ Fr 47 [(4, .int .i64 (weightsE ts ws))] a) := by
  refine T3.leaf ?_
  rintro Q JS JX JT K hS hK hX hE hT hR a w ⟨hpre, hW, ⟨fr, rfl, _⟩⟩
  have hpp := Lib.hid hpre
  clear hpre
  rw [fr_cwP]
  conv => arg 2; whnf
  go_wp2_with fail
  refine Met.intro (hS _ _ ?_)
  exact ⟨hpp.out, hW, Fr.of _ rfl ⟨rfl, trivial⟩⟩

set_option maxRecDepth 100000 in
set_option maxHeartbeats 1000000 in
theorem cpall (w0 : World) (vt vw : Value) (ts : List ByteArray) (ws : List Int) (h : WH w0 vt vw ts ws) : T3 Try.prog (fun a w => (IsW w0 w) ∧ Fr 47 [(0, vt), (1, vw)] a) cwP No No 9 (fun a w => IsW w0 w ∧ Fr 47 [(4, .int .i64 (weightsE ts ws))] a) := by
  refine T3.seq (s := (sel [0] cwP)) (c := (sel [1] cwP)) (cp0 w0 vt vw ts ws h) ?_
  refine T3.seq (s := (sel [1, 0] cwP)) (c := (sel [1, 1] cwP)) (S := fun a w => WOk1 ts ∧ (IsW w0 w ∧ Fr 47 [(0, vt), (1, vw)] a)) ?_ (T3.pure fun hok => ?_)
  · refine T3.block (id' := 0) (c := (sel [1, 0, 4] cwP)) (by decide) ?_
    refine T3.seq (s := (sel [1, 0, 4, 0] cwP)) (c := (sel [1, 0, 4, 1] cwP)) (cp1 w0 vt vw ts ws h) (T3.iff (M := fun q w => (q = decide ((ts.length : Int) = 0)) ∧ IsW w0 w) (by decide) ?_ ?_)
    · refine T3.seq (s := (sel [1, 0, 4, 1, 2, 0] cwP)) (c := .ret) (t3_seqx (p := ts.length = 0) (cp2 w0 vt vw ts ws h) ?_) (T3.ret ?_)
      · rintro a w ⟨hF, hq, hW⟩
        exact ⟨by have := hq.symm; simp only [decide_eq_true_eq] at this; omega, hW, hF.tail⟩
      · rintro a w ⟨hp, hW, hF⟩
        exact ⟨hW, by rw [we_none hp]; exact hF⟩
    · refine T3.pre (R := fun a w => (ts.length ≠ 0) ∧ (IsW w0 w ∧ Fr 47 [(0, vt), (1, vw)] a)) (T3.pure fun hne => ?_) ?_
      · refine T3.seq (s := (sel [1, 0, 4, 1, 3, 0] cwP)) (c := (sel [1, 0, 4, 1, 3, 1] cwP)) (cp3 w0 vt vw ts ws h) (T3.iff (M := fun q w => (q = decide ((14 : Int) < ts.length)) ∧ IsW w0 w) (by decide) ?_ (T3.skip ?_))
        · refine T3.seq (s := (sel [1, 0, 4, 1, 3, 1, 2, 0] cwP)) (c := .ret) (t3_seqx (p := 14 < ts.length) (cp4 w0 vt vw ts ws h) ?_) (T3.ret ?_)
          · rintro a w ⟨hF, hq, hW⟩
            exact ⟨by have := hq.symm; simp only [decide_eq_true_eq] at this; omega, hW, hF.tail⟩
          · rintro a w ⟨hp, hW, hF⟩
            exact ⟨hW, by rw [we_large hne hp]; exact hF⟩
        · rintro a w ⟨hF, hq, hW⟩
          exact ⟨⟨hne, by have := hq.symm; simp only [decide_eq_false_iff_not] at this; omega⟩, hW, hF.tail⟩
      · rintro a w ⟨hF, hq, hW⟩
        exact ⟨by have := hq.symm; simp only [decide_eq_false_iff_not] at this; omega, hW, hF.tail⟩
  refine T3.seq (s := (sel [1, 1, 0] cwP)) (c := (sel [1, 1, 1] cwP)) (T3.seq (s := (sel [1, 1, 0, 0] cwP)) (c := (sel [1, 1, 0, 1] cwP)) (cp5 w0 vt vw ts ws h) (cptloop w0 vt vw ts ws h hok)) ?_
  refine T3.seq (s := (sel [1, 1, 1, 0] cwP)) (c := (sel [1, 1, 1, 1] cwP)) (S := fun a w => WOk2 ts ws ∧ (IsW w0 w ∧ Fr 47 [(0, vt), (1, vw)] a)) ?_ (T3.pure fun hfx => ?_)
  · refine T3.test (s := (sel [1, 1, 1, 0, 0] cwP)) (x := (sel [1, 1, 1, 0, 1, 2] cwP)) (y := .skip) (C := fun q => ((NoErr (teamAt ts) ts.length) ∧ q = decide ((ws.length : Int) ≠ ts.length))) (W := fun w => IsW w0 w) (by decide) (cp13 w0 vt vw ts ws h) ?_ (T3.skip ?_)
    · refine T3.seq (s := (sel [1, 1, 1, 0, 1, 2, 0] cwP)) (c := .ret) (t3_seqx (p := NoErr (teamAt ts) ts.length ∧ ws.length ≠ ts.length) (cp14 w0 vt vw ts ws h) ?_) (T3.ret ?_)
      · rintro a w ⟨hF, ⟨hp, hq⟩, hW⟩
        exact ⟨⟨hp, by have := hq.symm; simp only [decide_eq_true_eq] at this; omega⟩, hp, hW, hF.tail⟩
      · rintro a w ⟨hp, hW, hF⟩
        exact ⟨hW, by rw [we_form hok hp.1 hp.2]; exact hF⟩
    · rintro a w ⟨⟨hp, hq⟩, hW, hF⟩
      exact ⟨⟨hp, by have := hq.symm; simp only [decide_eq_false_iff_not] at this; omega⟩, hW, hF⟩
  refine T3.seq (s := (sel [1, 1, 1, 1, 0] cwP)) (c := (sel [1, 1, 1, 1, 1] cwP)) (T3.seq (s := (sel [1, 1, 1, 1, 0, 0] cwP)) (c := (sel [1, 1, 1, 1, 0, 1] cwP)) (cp15 w0 vt vw ts ws h) (cpwloop w0 vt vw ts ws h hok hfx)) ?_
  refine T3.seq (s := (sel [1, 1, 1, 1, 1, 0] cwP)) (c := .ret) (cp21 w0 vt vw ts ws h) (T3.ret ?_)
  rintro a w ⟨hp, hW, hF⟩
  exact ⟨hW, by rw [we_last hok hfx.1 hfx.2, firstErr_none hp]; exact hF⟩

set_option maxRecDepth 100000 in
set_option maxHeartbeats 1000000 in
theorem weights_prog (w0 : World) (vt vw : Value) (ts : List ByteArray) (ws : List Int) (h : WH w0 vt vw ts ws) : Calls Try.prog 22 #[vt, vw] w0 fun e w' => e = .returned (.int .i64 (weightsE ts ws)) ∧ w0 = w' := by
  have hall := cpall w0 vt vw ts ws h
  go_enter Try.func22, Try.ntmps22
  refine T3.done (s := cwP) hall ⟨rfl, Fr.of _ rfl ⟨rfl, rfl, trivial⟩⟩ ?_
  rintro a w ⟨hw, fr, rfl, q4, _⟩
  obtain rfl : w = w0 := hw
  rw [fr_cwP, show fr 4 = _ from q4]
  go_ret
  exact ⟨rfl, rfl⟩

noncomputable def cwR : Code := (Try.f15.body).getD .skip
set_option maxRecDepth 100000 in
theorem fr_cwR (f : Nat → Value) : frame 48 f = ⟨#[f 0, f 1, f 2, f 3, f 4, f 5, f 6, f 7, f 8, f 9, f 10, f 11, f 12, f 13, f 14, f 15, f 16, f 17, f 18, f 19, f 20, f 21, f 22, f 23, f 24, f 25, f 26, f 27, f 28, f 29, f 30, f 31, f 32, f 33, f 34, f 35, f 36, f 37, f 38, f 39, f 40, f 41, f 42, f 43, f 44, f 45, f 46, f 47], []⟩ := by rfl
set_option maxRecDepth 100000 in
set_option maxHeartbeats 1000000 in
theorem cr0 (w0 : World) (vt vw : Value) (ts : List ByteArray) (ws : List Int) (h : WH w0 vt vw ts ws) : T3 Try.prog (fun a w => (IsW w0 w) ∧ Fr 48 [(0, vt), (1, vw)] a) (sel [0] cwR) (fun a w => (IsW w0 w) ∧ Fr 48 [(0, vt), (1, vw)] a) No 9 (fun a w => IsW w0 w ∧ Fr 48 [(4, .int .i64 (weightsE ts ws))] a) := by
  refine T3.leaf ?_
  rintro Q JS JX JT K hS hK hX hE hT hR a w ⟨hW, ⟨fr, rfl, q0, q1, _⟩⟩
  obtain ⟨p1, c1, hv1⟩ := h.t.shape
  subst hv1
  obtain ⟨p2, c2, hv2⟩ := h.w.shape
  subst hv2
  rw [fr_cwR, show fr 0 = _ from q0, show fr 1 = _ from q1]
  clear q0 q1
  conv => arg 2; whnf
  go_wp2_with fail
  refine Met.intro (hS _ _ ?_)
  exact ⟨hW, Fr.of _ rfl ⟨rfl, rfl, trivial⟩⟩

set_option maxRecDepth 100000 in
set_option maxHeartbeats 1000000 in
theorem cr1 (w0 : World) (vt vw : Value) (ts : List ByteArray) (ws : List Int) (h : WH w0 vt vw ts ws) : T3 Try.prog (fun a w => (IsW w0 w) ∧ Fr 48 [(0, vt), (1, vw)] a) (sel [1, 0, 4, 0] cwR) (fun a w => ∃ q, Fr 48 ((9, .bool q) :: [(0, vt), (1, vw)]) a ∧ ((q = decide ((ts.length : Int) = 0)) ∧ IsW w0 w)) No 9 (fun a w => IsW w0 w ∧ Fr 48 [(4, .int .i64 (weightsE ts ws))] a) := by
  refine T3.leaf ?_
  rintro Q JS JX JT K hS hK hX hE hT hR a w ⟨hW, ⟨fr, rfl, q0, q1, _⟩⟩
  obtain ⟨p1, c1, hv1⟩ := h.t.shape
  subst hv1
  obtain ⟨p2, c2, hv2⟩ := h.w.shape
  subst hv2
  rw [fr_cwR, show fr 0 = _ from q0, show fr 1 = _ from q1]
  clear q0 q1
  conv => arg 2; whnf
  go_wp2_with fail
  refine Met.intro (hS _ _ ?_)
  exact ⟨_, Fr.of _ rfl ⟨rfl, rfl, rfl, trivial⟩, rfl, hW⟩

set_option maxRecDepth 100000 in
set_option maxHeartbeats 1000000 in
theorem cr3 (w0 : World) (vt vw : Value) (ts : List ByteArray) (ws : List Int) (h : WH w0 vt vw ts ws) : T3 Try.prog (fun a w => (IsW w0 w) ∧ Fr 48 [(0, vt), (1, vw)] a) (sel [1, 0, 4, 1, 3, 0] cwR) (fun a w => ∃ q, Fr 48 ((13, .bool q) :: [(0, vt), (1, vw)]) a ∧ ((q = decide ((14 : Int) < ts.length)) ∧ IsW w0 w)) No 9 (fun a w => IsW w0 w ∧ Fr 48 [(4, .int .i64 (weightsE ts ws))] a) := by
  refine T3.leaf ?_
  rintro Q JS JX JT K hS hK hX hE hT hR a w ⟨hW, ⟨fr, rfl, q0, q1, _⟩⟩
  obtain ⟨p1, c1, hv1⟩ := h.t.shape
  subst hv1
  obtain ⟨p2, c2, hv2⟩ := h.w.shape
  subst hv2
  rw [fr_cwR, show fr 0 = _ from q0, show fr 1 = _ from q1]
  clear q0 q1
  conv => arg 2; whnf
  go_wp2_with fail
  refine Met.intro (hS _ _ ?_)
  exact ⟨_, Fr.of _ rfl ⟨rfl, rfl, rfl, trivial⟩, rfl, hW⟩

set_option maxRecDepth 100000 in
set_option maxHeartbeats 1000000 in
theorem cr2 (w0 : World) (vt vw : Value) (ts : List ByteArray) (ws : List Int) (h : WH w0 vt vw ts ws) : T3 Try.prog (fun a w => (IsW w0 w) ∧ Fr 48 [(0, vt), (1, vw)] a) (sel [1, 0, 4, 1, 2, 0] cwR) (fun a w => (IsW w0 w) ∧ Fr 48 [(4, .int .i64 8)] a) No 9 (fun a w => IsW w0 w ∧ Fr 48 [(4, .int .i64 (weightsE ts ws))] a) := by
  refine T3.leaf ?_
  rintro Q JS JX JT K hS hK hX hE hT hR a w ⟨hW, ⟨fr, rfl, q0, q1, _⟩⟩
  rw [fr_cwR, show fr 0 = _ from q0, show fr 1 = _ from q1]
  clear q0 q1
  conv => arg 2; whnf
  go_wp2_with fail
  refine Met.intro (hS _ _ ?_)
  exact ⟨hW, Fr.of _ rfl ⟨rfl, trivial⟩⟩

set_option maxRecDepth 100000 in
set_option maxHeartbeats 1000000 in
theorem cr4 (w0 : World) (vt vw : Value) (ts : List ByteArray) (ws : List Int) (h : WH w0 vt vw ts ws) : T3 Try.prog (fun a w => (IsW w0 w) ∧ Fr 48 [(0, vt), (1, vw)] a) (sel [1, 0, 4, 1, 3, 1, 2, 0] cwR) (fun a w => (IsW w0 w) ∧ Fr 48 [(4, .int .i64 2)] a) No 9 (fun a w => IsW w0 w ∧ Fr 48 [(4, .int .i64 (weightsE ts ws))] a) := by
  refine T3.leaf ?_
  rintro Q JS JX JT K hS hK hX hE hT hR a w ⟨hW, ⟨fr, rfl, q0, q1, _⟩⟩
  rw [fr_cwR, show fr 0 = _ from q0, show fr 1 = _ from q1]
  clear q0 q1
  conv => arg 2; whnf
  go_wp2_with fail
  refine Met.intro (hS _ _ ?_)
  exact ⟨hW, Fr.of _ rfl ⟨rfl, trivial⟩⟩

set_option maxRecDepth 100000 in
set_option maxHeartbeats 1000000 in
theorem cr5 (w0 : World) (vt vw : Value) (ts : List ByteArray) (ws : List Int) (h : WH w0 vt vw ts ws) : T3 Try.prog (fun a w => (IsW w0 w) ∧ Fr 48 [(0, vt), (1, vw)] a) (sel [1, 1, 0, 0] cwR) (fun a w => (0 ≤ (0 : Int) ∧ (0 : Int) ≤ ts.length) ∧ (NoErr (teamAt ts) 0) ∧ (IsW w0 w) ∧ Fr 48 [(0, vt), (1, vw), (17, vt), (18, .int .i64 ts.length), (19, .int .i64 0)] a) No 9 (fun a w => IsW w0 w ∧ Fr 48 [(4, .int .i64 (weightsE ts ws))] a) := by
  refine T3.leaf ?_
  rintro Q JS JX JT K hS hK hX hE hT hR a w ⟨hW, ⟨fr, rfl, q0, q1, _⟩⟩
  obtain ⟨p1, c1, hv1⟩ := h.t.shape
  subst hv1
  obtain ⟨p2, c2, hv2⟩ := h.w.shape
  subst hv2
  rw [fr_cwR, show fr 0 = _ from q0, show fr 1 = _ from q1]
  clear q0 q1
  conv => arg 2; whnf
  go_wp2_with fail
  refine Met.intro (hS _ _ ?_)
  exact ⟨⟨by omega, by omega⟩, NoErr.zero _, hW, Fr.of _ rfl ⟨rfl, rfl, rfl, rfl, rfl, trivial⟩⟩

set_option maxRecDepth 100000 in
set_option maxHeartbeats 1000000 in
theorem cr7 (w0 : World) (vt vw : Value) (ts : List ByteArray) (ws : List Int) (h : WH w0 vt vw ts ws) (k : Int) : T3 Try.prog (fun a w => ((0 ≤ k ∧ k < ts.length) ∧ (NoErr (teamAt ts) k)) ∧ (IsW w0 w) ∧ Fr 48 [(0, vt), (1, vw), (17, vt), (18, .int .i64 ts.length), (19, .int .i64 k)] a) (sel [1, 1, 0, 1, 4, 4, 1, 1, 0, 4, 0] cwR) (fun a w => ((0 ≤ k ∧ k < ts.length) ∧ (NoErr (teamAt ts) k)) ∧ (IsW w0 w) ∧ Fr 48 [(0, vt), (1, vw), (5, .int .i64 k), (6, .string (geta ts k)), (17, vt), (18, .int .i64 ts.length), (19, .int .i64 k)] a) No 9 (fun a w => IsW w0 w ∧ Fr 48 [(4, .int .i64 (weightsE ts ws))] a) := by
  refine T3.leaf ?_
  rintro Q JS JX JT K hS hK hX hE hT hR a w ⟨hpre, hW, ⟨fr, rfl, q0, q1, q17, q18, q19, _⟩⟩
  obtain ⟨hk0, hk1⟩ := hpre.1
  obtain ⟨_, hcs⟩ := h.t.els encSt_length (by decide)
  rcases hcs with ⟨rfl, h0⟩ | ⟨bz, off, cap, rfl, _, hbz, hnc, hcm, hcell⟩
  · omega
  have t0 := hcell k hk0 hk1 0 _ rfl
  rw [Nat.mul_one, Nat.add_zero] at t0
  clear hcell
  obtain rfl : w = w0 := hW
  rw [fr_cwR, show fr 0 = _ from q0, show fr 1 = _ from q1, show fr 17 = _ from q17, show fr 18 = _ from q18, show fr 19 = _ from q19]
  clear q0 q1 q17 q18 q19
  conv => arg 2; whnf
  go_wp2_with fail
  refine Met.intro (hS _ _ ?_)
  exact ⟨hpre, rfl, Fr.of _ rfl ⟨rfl, rfl, rfl, rfl, rfl, rfl, rfl, trivial⟩⟩

set_option maxRecDepth 100000 in
set_option maxHeartbeats 1000000 in
theorem cr8 (w0 : World) (vt vw : Value) (ts : List ByteArray) (ws : List Int) (h : WH w0 vt vw ts ws) (k : Int) : T3 Try.prog (fun a w => ((0 ≤ k ∧ k < ts.length) ∧ (NoErr (teamAt ts) k)) ∧ (IsW w0 w) ∧ Fr 48 [(0, vt), (1, vw), (5, .int .i64 k), (6, .string (geta ts k)), (17, vt), (18, .int .i64 ts.length), (19, .int .i64 k)] a) (sel [1, 1, 0, 1, 4, 4, 1, 1, 0, 4, 1, 0, 0] cwR) (fun a w => ∃ q, Fr 48 ((26, .bool q) :: [(0, vt), (1, vw), (5, .int .i64 k), (6, .string (geta ts k)), (17, vt), (18, .int .i64 ts.length), (19, .int .i64 k)]) a ∧ ((((0 ≤ k ∧ k < ts.length) ∧ (NoErr (teamAt ts) k)) ∧ q = !keyB (geta ts k)) ∧ IsW w0 w)) No 9 (fun a w => IsW w0 w ∧ Fr 48 [(4, .int .i64 (weightsE ts ws))] a) := by
  refine T3.leaf ?_
  rintro Q JS JX JT K hS hK hX hE hT hR a w ⟨hpre, hW, ⟨fr, rfl, q0, q1, q5, q6, q17, q18, q19, _⟩⟩
  have HK := Lib.hid (key_ref (geta ts k) w (h.z _ (geta_mem hpre.1.1 hpre.1.2)))
  generalize geta ts k = x at *
  generalize keyB x = q at *
  rw [fr_cwR, show fr 0 = _ from q0, show fr 1 = _ from q1, show fr 5 = _ from q5, show fr 6 = _ from q6, show fr 17 = _ from q17, show fr 18 = _ from q18, show fr 19 = _ from q19]
  clear q0 q1 q5 q6 q17 q18 q19
  conv => arg 2; whnf
  go_wp2_with fail
  refine HK.out.mono ?_
  rintro e w1 ⟨rfl, rfl⟩
  go_wp2_with fail
  refine Met.intro (hS _ _ ?_)
  exact ⟨_, Fr.of _ rfl ⟨rfl, rfl, rfl, rfl, rfl, rfl, rfl, rfl, trivial⟩, ⟨hpre, rfl⟩, hW⟩

set_option maxRecDepth 100000 in
set_option maxHeartbeats 1000000 in
theorem cr9 (w0 : World) (vt vw : Value) (ts : List ByteArray) (ws : List Int) (h : WH w0 vt vw ts ws) (k : Int) : T3 Try.prog (fun a w => ((0 ≤ k ∧ k < ts.length) ∧ (NoErr (teamAt ts) k)) ∧ (IsW w0 w) ∧ Fr 48 [(0, vt), (1, vw), (5, .int .i64 k), (6, .string (geta ts k)), (17, vt), (18, .int .i64 ts.length), (19, .int .i64 k)] a) (sel [1, 1, 0, 1, 4, 4, 1, 1, 0, 4, 1, 0, 1, 2, 0] cwR) (fun a w => (IsW w0 w) ∧ Fr 48 [(4, .int .i64 5)] a) No 9 (fun a w => IsW w0 w ∧ Fr 48 [(4, .int .i64 (weightsE ts ws))] a) := by
  refine T3.leaf ?_
  rintro Q JS JX JT K hS hK hX hE hT hR a w ⟨hpre, hW, ⟨fr, rfl, q0, q1, q5, q6, q17, q18, q19, _⟩⟩
  rw [fr_cwR, show fr 0 = _ from q0, show fr 1 = _ from q1, show fr 5 = _ from q5, show fr 6 = _ from q6, show fr 17 = _ from q17, show fr 18 = _ from q18, show fr 19 = _ from q19]
  clear q0 q1 q5 q6 q17 q18 q19
  conv => arg 2; whnf
  go_wp2_with fail
  refine Met.intro (hS _ _ ?_)
  exact ⟨hW, Fr.of _ rfl ⟨rfl, trivial⟩⟩

set_option maxRecDepth 100000 in
set_option maxHeartbeats 1000000 in
theorem cr10 (w0 : World) (vt vw : Value) (ts : List ByteArray) (ws : List Int) (h : WH w0 vt vw ts ws) (k : Int) : T3 Try.prog (fun a w => ((0 ≤ k ∧ k < ts.length) ∧ (NoErr (teamAt ts) k) ∧ keyB (geta ts k) = true) ∧ (IsW w0 w) ∧ Fr 48 [(0, vt), (1, vw), (5, .int .i64 k), (6, .string (geta ts k)), (17, vt), (18, .int .i64 ts.length), (19, .int .i64 k)] a) (sel [1, 1, 0, 1, 4, 4, 1, 1, 0, 4, 1, 1, 0] cwR) (fun a w => ∃ q, Fr 48 ((31, .bool q) :: [(0, vt), (1, vw), (5, .int .i64 k), (6, .string (geta ts k)), (17, vt), (18, .int .i64 ts.length), (19, .int .i64 k)]) a ∧ ((((0 ≤ k ∧ k < ts.length) ∧ (NoErr (teamAt ts) k) ∧ keyB (geta ts k) = true) ∧ q = hasTo ts k (geta ts k)) ∧ IsW w0 w)) No 9 (fun a w => IsW w0 w ∧ Fr 48 [(4, .int .i64 (weightsE ts ws))] a) := by
  refine T3.leaf ?_
  rintro Q JS JX JT K hS hK hX hE hT hR a w ⟨hpre, hW, ⟨fr, rfl, q0, q1, q5, q6, q17, q18, q19, _⟩⟩
  have HP := Lib.hid hpre
  obtain ⟨⟨hk0, hk1⟩, _⟩ := hpre
  obtain ⟨_, hcs⟩ := h.t.els encSt_length (by decide)
  rcases hcs with ⟨rfl, h0⟩ | ⟨bz, off, cap, rfl, _, hbz, hnc, hcm, hcell⟩
  · omega
  have HC := Lib.hid (contains_str _ k.toNat (ts.take k.toNat) (geta ts k) 0 w0 (Row.first encSt_length h.t rfl (by omega)))
  have hbq : (0 : Int) ≤ k ∧ k ≤ ts.length ∧ (ts.length : Int) ≤ cap := by omega
  clear hcell
  obtain rfl : w = w0 := hW
  have HE := Lib.hid (show hasS (ts.take k.toNat) (geta ts k) = hasTo ts k (geta ts k) from rfl)
  rw [HE.out] at HC
  generalize geta ts k = x at *
  generalize hasTo ts k x = q at *
  rw [fr_cwR, show fr 0 = _ from q0, show fr 1 = _ from q1, show fr 5 = _ from q5, show fr 6 = _ from q6, show fr 17 = _ from q17, show fr 18 = _ from q18, show fr 19 = _ from q19]
  clear q0 q1 q5 q6 q17 q18 q19
  conv => arg 2; whnf
  go_wp2_with fail
  refine HC.out.mono ?_
  rintro e w1 ⟨rfl, rfl⟩
  go_wp2_with fail
  have hpre := HP.out
  refine Met.intro (hS _ _ ?_)
  exact ⟨_, Fr.of _ rfl ⟨rfl, rfl, rfl, rfl, rfl, rfl, rfl, rfl, trivial⟩, ⟨hpre, rfl⟩, rfl⟩

set_option maxRecDepth 100000 in
set_option maxHeartbeats 1000000 in
theorem cr11 (w0 : World) (vt vw : Value) (ts : List ByteArray) (ws : List Int) (h : WH w0 vt vw ts ws) (k : Int) : T3 Try.prog (fun a w => ((0 ≤ k ∧ k < ts.length) ∧ (NoErr (teamAt ts) k) ∧ keyB (geta ts k) = true) ∧ (IsW w0 w) ∧ Fr 48 [(0, vt), (1, vw), (5, .int .i64 k), (6, .string (geta ts k)), (17, vt), (18, .int .i64 ts.length), (19, .int .i64 k)] a) (sel [1, 1, 0, 1, 4, 4, 1, 1, 0, 4, 1, 1, 1, 2, 0] cwR) (fun a w => (IsW w0 w) ∧ Fr 48 [(4, .int .i64 6)] a) No 9 (fun a w => IsW w0 w ∧ Fr 48 [(4, .int .i64 (weightsE ts ws))] a) := by
  refine T3.leaf ?_
  rintro Q JS JX JT K hS hK hX hE hT hR a w ⟨hpre, hW, ⟨fr, rfl, q0, q1, q5, q6, q17, q18, q19, _⟩⟩
  rw [fr_cwR, show fr 0 = _ from q0, show fr 1 = _ from q1, show fr 5 = _ from q5, show fr 6 = _ from q6, show fr 17 = _ from q17, show fr 18 = _ from q18, show fr 19 = _ from q19]
  clear q0 q1 q5 q6 q17 q18 q19
  conv => arg 2; whnf
  go_wp2_with fail
  refine Met.intro (hS _ _ ?_)
  exact ⟨hW, Fr.of _ rfl ⟨rfl, trivial⟩⟩

set_option maxRecDepth 100000 in
set_option maxHeartbeats 1000000 in
theorem crb (w0 : World) (vt vw : Value) (ts : List ByteArray) (ws : List Int) (h : WH w0 vt vw ts ws) (k : Int) (hok : WOk1 ts) : T3 Try.prog (fun a w => ((0 ≤ k ∧ k < ts.length) ∧ (NoErr (teamAt ts) k)) ∧ (IsW w0 w) ∧ Fr 48 [(0, vt), (1, vw), (17, vt), (18, .int .i64 ts.length), (19, .int .i64 k)] a) (sel [1, 1, 0, 1, 4, 4, 1, 1, 0] cwR) (fun a w => ((0 ≤ k ∧ k < ts.length) ∧ (NoErr (teamAt ts) (k + 1))) ∧ (IsW w0 w) ∧ Fr 48 [(0, vt), (1, vw), (17, vt), (18, .int .i64 ts.length), (19, .int .i64 k)] a) No 9 (fun a w => IsW w0 w ∧ Fr 48 [(4, .int .i64 (weightsE ts ws))] a) := by
  refine T3.block (id' := 2) (c := (sel [1, 1, 0, 1, 4, 4, 1, 1, 0, 4] cwR)) (by decide) ?_
  refine T3.seq (s := (sel [1, 1, 0, 1, 4, 4, 1, 1, 0, 4, 0] cwR)) (c := (sel [1, 1, 0, 1, 4, 4, 1, 1, 0, 4, 1] cwR)) (cr7 w0 vt vw ts ws h k) ?_
  refine T3.seq (s := (sel [1, 1, 0, 1, 4, 4, 1, 1, 0, 4, 1, 0] cwR)) (c := (sel [1, 1, 0, 1, 4, 4, 1, 1, 0, 4, 1, 1] cwR)) (S := (fun a w => ((0 ≤ k ∧ k < ts.length) ∧ (NoErr (teamAt ts) k) ∧ keyB (geta ts k) = true) ∧ (IsW w0 w) ∧ Fr 48 [(0, vt), (1, vw), (5, .int .i64 k), (6, .string (geta ts k)), (17, vt), (18, .int .i64 ts.length), (19, .int .i64 k)] a)) ?_ ?_
  · refine T3.test (s := (sel [1, 1, 0, 1, 4, 4, 1, 1, 0, 4, 1, 0, 0] cwR)) (x := (sel [1, 1, 0, 1, 4, 4, 1, 1, 0, 4, 1, 0, 1, 2] cwR)) (y := .skip) (C := fun q => (((0 ≤ k ∧ k < ts.length) ∧ (NoErr (teamAt ts) k)) ∧ q = !keyB (geta ts k))) (W := fun w => IsW w0 w) (by decide) (cr8 w0 vt vw ts ws h k) ?_ (T3.skip ?_)
    · refine T3.seq (s := (sel [1, 1, 0, 1, 4, 4, 1, 1, 0, 4, 1, 0, 1, 2, 0] cwR)) (c := .ret) (t3_seqx (p := ((0 ≤ k ∧ k < ts.length) ∧ (NoErr (teamAt ts) k)) ∧ keyB (geta ts k) = false) (cr9 w0 vt vw ts ws h k) ?_) (T3.ret ?_)
      · rintro a w ⟨hF, ⟨hp, hq⟩, hW⟩
        exact ⟨⟨hp, by simpa using hq.symm⟩, hp, hW, hF.tail⟩
      · rintro a w ⟨⟨hp, hkb⟩, hW, hF⟩
        have e : teamAt ts k = 5 := by unfold teamAt; rw [if_pos hkb]
        exact ⟨hW, by rw [we_team hok hp.1.1 hp.1.2 hp.2 (by rw [e]; decide), e]; exact hF⟩
    · rintro a w ⟨⟨hp, hq⟩, hW, hF⟩
      exact ⟨⟨hp.1, hp.2, by simpa using hq.symm⟩, hW, hF⟩
  · refine T3.test (s := (sel [1, 1, 0, 1, 4, 4, 1, 1, 0, 4, 1, 1, 0] cwR)) (x := (sel [1, 1, 0, 1, 4, 4, 1, 1, 0, 4, 1, 1, 1, 2] cwR)) (y := .skip) (C := fun q => (((0 ≤ k ∧ k < ts.length) ∧ (NoErr (teamAt ts) k) ∧ keyB (geta ts k) = true) ∧ q = hasTo ts k (geta ts k))) (W := fun w => IsW w0 w) (by decide) ((cr10 w0 vt vw ts ws h k).pre (fun a w q => ⟨⟨q.1.1, q.1.2.1, q.1.2.2⟩, q.2⟩)) ?_ (T3.skip ?_)
    · refine T3.seq (s := (sel [1, 1, 0, 1, 4, 4, 1, 1, 0, 4, 1, 1, 1, 2, 0] cwR)) (c := .ret) (t3_seqx (p := ((0 ≤ k ∧ k < ts.length) ∧ (NoErr (teamAt ts) k) ∧ keyB (geta ts k) = true) ∧ hasTo ts k (geta ts k) = true) (cr11 w0 vt vw ts ws h k) ?_) (T3.ret ?_)
      · rintro a w ⟨hF, ⟨hp, hq⟩, hW⟩
        exact ⟨⟨hp, hq.symm⟩, hp, hW, hF.tail⟩
      · rintro a w ⟨⟨hp, hh⟩, hW, hF⟩
        have e : teamAt ts k = 6 := by unfold teamAt; rw [if_neg (by rw [hp.2.2]; decide), if_pos hh]
        exact ⟨hW, by rw [we_team hok hp.1.1 hp.1.2 hp.2.1 (by rw [e]; decide), e]; exact hF⟩
    · rintro a w ⟨⟨hp, hq⟩, hW, hF⟩
      refine ⟨⟨hp.1, hp.2.1.step ?_⟩, hW, hF.sub (by simp)⟩
      unfold teamAt
      rw [if_neg (by rw [hp.2.2]; decide), if_neg (by rw [← hq]; decide)]

def crtI (w0 : World) (vt vw : Value) (ts : List ByteArray) (ws : List Int) (h : WH w0 vt vw ts ws) (hok : WOk1 ts) (k : Int) (a : Act) (w : World) : Prop := (0 ≤ k ∧ k ≤ ts.length) ∧ (NoErr (teamAt ts) k) ∧ (IsW w0 w) ∧ Fr 48 [(0, vt), (1, vw), (17, vt), (18, .int .i64 ts.length), (19, .int .i64 k)] a
set_option maxRecDepth 100000 in
set_option maxHeartbeats 1000000 in
theorem crtt (w0 : World) (vt vw : Value) (ts : List ByteArray) (ws : List Int) (h : WH w0 vt vw ts ws) (hok : WOk1 ts) (k : Int) : T3 Try.prog (fun a w => crtI w0 vt vw ts ws h hok k a w) (sel [1, 1, 0, 1, 4, 4, 0] cwR) (fun a w => ∃ q, Fr 48 ((20, .bool q) :: [(19, .int .i64 k)]) a ∧ ((q = true ↔ k < ts.length) ∧ crtI w0 vt vw ts ws h hok k a w)) No 9 (fun a w => IsW w0 w ∧ Fr 48 [(4, .int .i64 (weightsE ts ws))] a) := by
  refine T3.leaf ?_
  rintro Q JS JX JT K hS hK hX hE hT hR a w ⟨hk, hpre, hW, ⟨fr, rfl, q0, q1, q17, q18, q19, _⟩⟩
  have hl := h.tn
  rw [fr_cwR, show fr 0 = _ from q0, show fr 1 = _ from q1, show fr 17 = _ from q17, show fr 18 = _ from q18, show fr 19 = _ from q19]
  clear q0 q1 q17 q18 q19
  conv => arg 2; whnf
  by_cases hlt : k < ts.length
  · go_wp2_with fail
    refine Met.intro (hS _ _ ?_)
    exact ⟨true, Fr.of _ rfl ⟨rfl, rfl, trivial⟩, ⟨fun _ => hlt, fun _ => rfl⟩, hk, hpre, hW, Fr.of _ rfl ⟨rfl, rfl, rfl, rfl, rfl, trivial⟩⟩
  · have hpb : decide (k < (ts.length : Int)) = false := by simp; omega
    go_wp2_with fail
    refine Met.intro (hS _ _ ?_)
    exact ⟨false, Fr.of _ rfl ⟨rfl, rfl, trivial⟩, ⟨(fun h => by cases h), fun h => absurd h (by omega)⟩, hk, hpre, hW, Fr.of _ rfl ⟨rfl, rfl, rfl, rfl, rfl, trivial⟩⟩

set_option maxRecDepth 100000 in
set_option maxHeartbeats 1000000 in
theorem crtn (w0 : World) (vt vw : Value) (ts : List ByteArray) (ws : List Int) (h : WH w0 vt vw ts ws) (hok : WOk1 ts) (k : Int) : T3 Try.prog (fun a w => (0 ≤ k ∧ k < ts.length) ∧ (NoErr (teamAt ts) (k + 1)) ∧ (IsW w0 w) ∧ Fr 48 [(0, vt), (1, vw), (17, vt), (18, .int .i64 ts.length), (19, .int .i64 k)] a) (sel [1, 1, 0, 1, 4, 4, 1, 1, 1] cwR) (fun a w => crtI w0 vt vw ts ws h hok (k + 1) a w) No 9 (fun a w => IsW w0 w ∧ Fr 48 [(4, .int .i64 (weightsE ts ws))] a) := by
  refine T3.leaf ?_
  rintro Q JS JX JT K hS hK hX hE hT hR a w ⟨hk, hpre, hW, ⟨fr, rfl, q0, q1, q17, q18, q19, _⟩⟩
  obtain ⟨hk0, hk1⟩ := hk
  have hl := h.tn
  rw [fr_cwR, show fr 0 = _ from q0, show fr 1 = _ from q1, show fr 17 = _ from q17, show fr 18 = _ from q18, show fr 19 = _ from q19]
  clear q0 q1 q17 q18 q19
  conv => arg 2; whnf
  go_wp2_with fail
  refine Met.intro (hS _ _ ?_)
  exact ⟨⟨by omega, by omega⟩, hpre, hW, Fr.of _ rfl ⟨rfl, rfl, rfl, rfl, rfl, trivial⟩⟩

set_option maxRecDepth 100000 in
set_option maxHeartbeats 1000000 in
theorem crtloop (w0 : World) (vt vw : Value) (ts : List ByteArray) (ws : List Int) (h : WH w0 vt vw ts ws) (hok : WOk1 ts) : T3 Try.prog (fun a w => crtI w0 vt vw ts ws h hok 0 a w) (sel [1, 1, 0, 1] cwR) (fun a w => (NoErr (teamAt ts) ts.length) ∧ (IsW w0 w) ∧ Fr 48 [(0, vt), (1, vw)] a) No 9 (fun a w => IsW w0 w ∧ Fr 48 [(4, .int .i64 (weightsE ts ws))] a) := by
  refine T3.loop (c := (sel [1, 1, 0, 1, 4, 4] cwR)) (fun n a w => ∃ k : Int, (n : Int) = ts.length - k ∧ crtI w0 vt vw ts ws h hok k a w) (fun a w h => ⟨(ts.length : Int).toNat, 0, by have := h.1.2; omega, h⟩) (fun n => T3.ex fun k => T3.pure fun hn => ?_)
  refine T3.seq (s := (sel [1, 1, 0, 1, 4, 4, 0] cwR)) (c := (sel [1, 1, 0, 1, 4, 4, 1] cwR)) ((crtt w0 vt vw ts ws h hok k).noX) ?_
  refine T3.seq (s := (sel [1, 1, 0, 1, 4, 4, 1, 0] cwR)) (c := (sel [1, 1, 0, 1, 4, 4, 1, 1] cwR)) (S := fun a w => (0 ≤ k ∧ k < ts.length) ∧ (NoErr (teamAt ts) k) ∧ (IsW w0 w) ∧ Fr 48 [(0, vt), (1, vw), (17, vt), (18, .int .i64 ts.length), (19, .int .i64 k)] a) ?_ (T3.seq (s := (sel [1, 1, 0, 1, 4, 4, 1, 1, 0] cwR)) (c := (sel [1, 1, 0, 1, 4, 4, 1, 1, 1] cwR)) (S := fun a w => (0 ≤ k ∧ k < ts.length) ∧ (NoErr (teamAt ts) (k + 1)) ∧ (IsW w0 w) ∧ Fr 48 [(0, vt), (1, vw), (17, vt), (18, .int .i64 ts.length), (19, .int .i64 k)] a) (T3.noX (T3.mono (R' := fun a w => (0 ≤ k ∧ k < ts.length) ∧ (NoErr (teamAt ts) k) ∧ (IsW w0 w) ∧ Fr 48 [(0, vt), (1, vw), (17, vt), (18, .int .i64 ts.length), (19, .int .i64 k)] a) (S' := fun a w => (0 ≤ k ∧ k < ts.length) ∧ (NoErr (teamAt ts) (k + 1)) ∧ (IsW w0 w) ∧ Fr 48 [(0, vt), (1, vw), (17, vt), (18, .int .i64 ts.length), (19, .int .i64 k)] a) (crb w0 vt vw ts ws h k hok) (fun a w ⟨hk, hp, hI⟩ => ⟨⟨hk, hp⟩, hI⟩) (fun a w ⟨⟨hk, hp⟩, hI⟩ => ⟨hk, hp, hI⟩) (fun _ _ q => q) (fun _ _ q => q))) ?_)
  · refine T3.cond (o := .tmp 20) (x := .skip) (y := .exit 1) (fun a w => k < ts.length ∧ crtI w0 vt vw ts ws h hok k a w) (fun a w => ¬ k < ts.length ∧ crtI w0 vt vw ts ws h hok k a w) ?_ (T3.skip ?_) (T3.exit ?_)
    · rintro a w ⟨q, hF, hq, hI⟩
      have he := hF.eval 20 (by decide) (v := .bool q) (by simp)
      cases q
      · exact .inr ⟨he, (fun h => by have := hq.2 h; cases this), hI⟩
      · exact .inl ⟨he, hq.1 rfl, hI⟩
    · rintro a w ⟨hlt, hk, hI⟩
      exact ⟨⟨hk.1, hlt⟩, hI⟩
    · rintro a w ⟨hlt, hk, hI⟩
      obtain rfl : k = ts.length := by omega
      exact ⟨hI.1, hI.2.1, hI.2.2.sub (by simp)⟩
  · intro a w hx
    have hk := hx.1
    exact (((crtn w0 vt vw ts ws h hok k).noX).post (fun a w q => ⟨n - 1, by omega, k + 1, by omega, q⟩)) a w hx
set_option maxRecDepth 100000 in
set_option maxHeartbeats 1000000 in
theorem cr13 (w0 : World) (vt vw : Value) (ts : List ByteArray) (ws : List Int) (h : WH w0 vt vw ts ws) : T3 Try.prog (fun a w => (NoErr (teamAt ts) ts.length) ∧ (IsW w0 w) ∧ Fr 48 [(0, vt), (1, vw)] a) (sel [1, 1, 1, 0, 0] cwR) (fun a w => ∃ q, Fr 48 ((37, .bool q) :: [(0, vt), (1, vw)]) a ∧ (((NoErr (teamAt ts) ts.length) ∧ q = decide ((ws.length : Int) ≠ ts.length)) ∧ IsW w0 w)) No 9 (fun a w => IsW w0 w ∧ Fr 48 [(4, .int .i64 (weightsE ts ws))] a) := by
  refine T3.leaf ?_
  rintro Q JS JX JT K hS hK hX hE hT hR a w ⟨hpre, hW, ⟨fr, rfl, q0, q1, _⟩⟩
  obtain ⟨p1, c1, hv1⟩ := h.t.shape
  subst hv1
  obtain ⟨p2, c2, hv2⟩ := h.w.shape
  subst hv2
  have hpp := Lib.hid hpre
  clear hpre
  have hb1 : ((ws.length : Int) != ts.length) = decide ((ws.length : Int) ≠ ts.length) := by by_cases hq : ((ws.length : Int) = ts.length) <;> simp [hq]
  generalize decide ((ws.length : Int) ≠ ts.length) = q at *
  rw [fr_cwR, show fr 0 = _ from q0, show fr 1 = _ from q1]
  clear q0 q1
  conv => arg 2; whnf
  go_wp2_with fail
  have hpre := hpp.out
  refine Met.intro (hS _ _ ?_)
  exact ⟨_, Fr.of _ rfl ⟨rfl, rfl, rfl, trivial⟩, ⟨hpre, rfl⟩, hW⟩

set_option maxRecDepth 100000 in
set_option maxHeartbeats 1000000 in
theorem cr14 (w0 : World) (vt vw : Value) (ts : List ByteArray) (ws : List Int) (h : WH w0 vt vw ts ws) : T3 Try.prog (fun a w => (NoErr (teamAt ts) ts.length) ∧ (IsW w0 w) ∧ Fr 48 [(0, vt), (1, vw)] a) (sel [1, 1, 1, 0, 1, 2, 0] cwR) (fun a w => (IsW w0 w) ∧ Fr 48 [(4, .int .i64 3)] a) No 9 (fun a w => IsW w0 w ∧ Fr 48 [(4, .int .i64 (weightsE ts ws))] a) := by
  refine T3.leaf ?_
  rintro Q JS JX JT K hS hK hX hE hT hR a w ⟨hpre, hW, ⟨fr, rfl, q0, q1, _⟩⟩
  rw [fr_cwR, show fr 0 = _ from q0, show fr 1 = _ from q1]
  clear q0 q1
  conv => arg 2; whnf
  go_wp2_with fail
  refine Met.intro (hS _ _ ?_)
  exact ⟨hW, Fr.of _ rfl ⟨rfl, trivial⟩⟩

set_option maxRecDepth 100000 in
set_option maxHeartbeats 1000000 in
theorem cr15 (w0 : World) (vt vw : Value) (ts : List ByteArray) (ws : List Int) (h : WH w0 vt vw ts ws) : T3 Try.prog (fun a w => (IsW w0 w) ∧ Fr 48 [(0, vt), (1, vw)] a) (sel [1, 1, 1, 1, 0, 0] cwR) (fun a w => (0 ≤ (0 : Int) ∧ (0 : Int) ≤ ws.length) ∧ (NoErr (wgtAt ws) 0) ∧ (IsW w0 w) ∧ Fr 48 [(38, vw), (39, .int .i64 ws.length), (40, .int .i64 0)] a) No 9 (fun a w => IsW w0 w ∧ Fr 48 [(4, .int .i64 (weightsE ts ws))] a) := by
  refine T3.leaf ?_
  rintro Q JS JX JT K hS hK hX hE hT hR a w ⟨hW, ⟨fr, rfl, q0, q1, _⟩⟩
  obtain ⟨p1, c1, hv1⟩ := h.t.shape
  subst hv1
  obtain ⟨p2, c2, hv2⟩ := h.w.shape
  subst hv2
  rw [fr_cwR, show fr 0 = _ from q0, show fr 1 = _ from q1]
  clear q0 q1
  conv => arg 2; whnf
  go_wp2_with fail
  refine Met.intro (hS _ _ ?_)
  exact ⟨⟨by omega, by omega⟩, NoErr.zero _, hW, Fr.of _ rfl ⟨rfl, rfl, rfl, trivial⟩⟩

set_option maxRecDepth 100000 in
set_option maxHeartbeats 1000000 in
theorem cr17 (w0 : World) (vt vw : Value) (ts : List ByteArray) (ws : List Int) (h : WH w0 vt vw ts ws) (k : Int) : T3 Try.prog (fun a w => ((0 ≤ k ∧ k < ws.length) ∧ (NoErr (wgtAt ws) k)) ∧ (IsW w0 w) ∧ Fr 48 [(38, vw), (39, .int .i64 ws.length), (40, .int .i64 k)] a) (sel [1, 1, 1, 1, 0, 1, 4, 4, 1, 1, 0, 4, 0] cwR) (fun a w => ((0 ≤ k ∧ k < ws.length) ∧ (NoErr (wgtAt ws) k)) ∧ (IsW w0 w) ∧ Fr 48 [(8, .int .i64 (geti ws k)), (38, vw), (39, .int .i64 ws.length), (40, .int .i64 k)] a) No 9 (fun a w => IsW w0 w ∧ Fr 48 [(4, .int .i64 (weightsE ts ws))] a) := by
  refine T3.leaf ?_
  rintro Q JS JX JT K hS hK hX hE hT hR a w ⟨hpre, hW, ⟨fr, rfl, q38, q39, q40, _⟩⟩
  obtain ⟨hk0, hk1⟩ := hpre.1
  obtain ⟨_, hcs⟩ := h.w.ints
  rcases hcs with ⟨rfl, h0⟩ | ⟨bz, off, cap, rfl, _, hbz, hnc, hcm, hcell⟩
  · omega
  have t0 := hcell k hk0 hk1
  clear hcell
  obtain rfl : w = w0 := hW
  rw [fr_cwR, show fr 38 = _ from q38, show fr 39 = _ from q39, show fr 40 = _ from q40]
  clear q38 q39 q40
  conv => arg 2; whnf
  go_wp2_with fail
  refine Met.intro (hS _ _ ?_)
  exact ⟨hpre, rfl, Fr.of _ rfl ⟨rfl, rfl, rfl, rfl, trivial⟩⟩

set_option maxRecDepth 100000 in
set_option maxHeartbeats 1000000 in
theorem cr18 (w0 : World) (vt vw : Value) (ts : List ByteArray) (ws : List Int) (h : WH w0 vt vw ts ws) (k : Int) : T3 Try.prog (fun a w => ((0 ≤ k ∧ k < ws.length) ∧ (NoErr (wgtAt ws) k)) ∧ (IsW w0 w) ∧ Fr 48 [(8, .int .i64 (geti ws k)), (38, vw), (39, .int .i64 ws.length), (40, .int .i64 k)] a) (sel [1, 1, 1, 1, 0, 1, 4, 4, 1, 1, 0, 4, 1, 0] cwR) (fun a w => ∃ q, Fr 48 ((46, .bool q) :: [(8, .int .i64 (geti ws k)), (38, vw), (39, .int .i64 ws.length), (40, .int .i64 k)]) a ∧ ((((0 ≤ k ∧ k < ws.length) ∧ (NoErr (wgtAt ws) k)) ∧ q = outB (geti ws k) 1 1000) ∧ IsW w0 w)) No 9 (fun a w => IsW w0 w ∧ Fr 48 [(4, .int .i64 (weightsE ts ws))] a) := by
  refine T3.leaf ?_
  rintro Q JS JX JT K hS hK hX hE hT hR a w ⟨hpre, hW, ⟨fr, rfl, q8, q38, q39, q40, _⟩⟩
  have HK := Lib.hid (in_any (geti ws k) 1 1000 w)
  generalize geti ws k = x at *
  generalize outB x 1 1000 = q at *
  rw [fr_cwR, show fr 8 = _ from q8, show fr 38 = _ from q38, show fr 39 = _ from q39, show fr 40 = _ from q40]
  clear q8 q38 q39 q40
  conv => arg 2; whnf
  go_wp2_with fail
  refine HK.out.mono ?_
  rintro e w1 ⟨rfl, rfl⟩
  have hqq : (!!q) = q := Bool.not_not q
  go_wp2_with fail
  refine Met.intro (hS _ _ ?_)
  exact ⟨_, Fr.of _ rfl ⟨rfl, rfl, rfl, rfl, rfl, trivial⟩, ⟨hpre, rfl⟩, hW⟩

set_option maxRecDepth 100000 in
set_option maxHeartbeats 1000000 in
theorem cr19 (w0 : World) (vt vw : Value) (ts : List ByteArray) (ws : List Int) (h : WH w0 vt vw ts ws) (k : Int) : T3 Try.prog (fun a w => ((0 ≤ k ∧ k < ws.length) ∧ (NoErr (wgtAt ws) k)) ∧ (IsW w0 w) ∧ Fr 48 [(8, .int .i64 (geti ws k)), (38, vw), (39, .int .i64 ws.length), (40, .int .i64 k)] a) (sel [1, 1, 1, 1, 0, 1, 4, 4, 1, 1, 0, 4, 1, 1, 2, 0] cwR) (fun a w => (IsW w0 w) ∧ Fr 48 [(4, .int .i64 1)] a) No 9 (fun a w => IsW w0 w ∧ Fr 48 [(4, .int .i64 (weightsE ts ws))] a) := by
  refine T3.leaf ?_
  rintro Q JS JX JT K hS hK hX hE hT hR a w ⟨hpre, hW, ⟨fr, rfl, q8, q38, q39, q40, _⟩⟩
  rw [fr_cwR, show fr 8 = _ from q8, show fr 38 = _ from q38, show fr 39 = _ from q39, show fr 40 = _ from q40]
  clear q8 q38 q39 q40
  conv => arg 2; whnf
  go_wp2_with fail
  refine Met.intro (hS _ _ ?_)
  exact ⟨hW, Fr.of _ rfl ⟨rfl, trivial⟩⟩

set_option maxRecDepth 100000 in
set_option maxHeartbeats 1000000 in
theorem crv (w0 : World) (vt vw : Value) (ts : List ByteArray) (ws : List Int) (h : WH w0 vt vw ts ws) (k : Int) (hok : WOk1 ts) (hfx : WOk2 ts ws) : T3 Try.prog (fun a w => ((0 ≤ k ∧ k < ws.length) ∧ (NoErr (wgtAt ws) k)) ∧ (IsW w0 w) ∧ Fr 48 [(38, vw), (39, .int .i64 ws.length), (40, .int .i64 k)] a) (sel [1, 1, 1, 1, 0, 1, 4, 4, 1, 1, 0] cwR) (fun a w => ((0 ≤ k ∧ k < ws.length) ∧ (NoErr (wgtAt ws) (k + 1))) ∧ (IsW w0 w) ∧ Fr 48 [(38, vw), (39, .int .i64 ws.length), (40, .int .i64 k)] a) No 9 (fun a w => IsW w0 w ∧ Fr 48 [(4, .int .i64 (weightsE ts ws))] a) := by
  refine T3.block (id' := 4) (c := (sel [1, 1, 1, 1, 0, 1, 4, 4, 1, 1, 0, 4] cwR)) (by decide) ?_
  refine T3.seq (s := (sel [1, 1, 1, 1, 0, 1, 4, 4, 1, 1, 0, 4, 0] cwR)) (c := (sel [1, 1, 1, 1, 0, 1, 4, 4, 1, 1, 0, 4, 1] cwR)) (cr17 w0 vt vw ts ws h k) ?_
  refine T3.test (s := (sel [1, 1, 1, 1, 0, 1, 4, 4, 1, 1, 0, 4, 1, 0] cwR)) (x := (sel [1, 1, 1, 1, 0, 1, 4, 4, 1, 1, 0, 4, 1, 1, 2] cwR)) (y := .skip) (C := fun q => (((0 ≤ k ∧ k < ws.length) ∧ (NoErr (wgtAt ws) k)) ∧ q = outB (geti ws k) 1 1000)) (W := fun w => IsW w0 w) (by decide) (cr18 w0 vt vw ts ws h k) ?_ (T3.skip ?_)
  · refine T3.seq (s := (sel [1, 1, 1, 1, 0, 1, 4, 4, 1, 1, 0, 4, 1, 1, 2, 0] cwR)) (c := .ret) (t3_seqx (p := ((0 ≤ k ∧ k < ws.length) ∧ (NoErr (wgtAt ws) k)) ∧ outB (geti ws k) 1 1000 = true) (cr19 w0 vt vw ts ws h k) ?_) (T3.ret ?_)
    · rintro a w ⟨hF, ⟨hp, hq⟩, hW⟩
      exact ⟨⟨hp, hq.symm⟩, hp, hW, hF.tail⟩
    · rintro a w ⟨⟨hp, hh⟩, hW, hF⟩
      have e : wgtAt ws k = 1 := by unfold wgtAt; rw [if_pos hh]
      exact ⟨hW, by rw [we_last hok hfx.1 hfx.2, firstErr_hit hp.2 hp.1.1 hp.1.2 (by rw [e]; decide), e]; exact hF⟩
  · rintro a w ⟨⟨hp, hq⟩, hW, hF⟩
    refine ⟨⟨hp.1, hp.2.step ?_⟩, hW, hF.sub (by simp)⟩
    unfold wgtAt
    rw [if_neg (by rw [← hq]; decide)]

def crwI (w0 : World) (vt vw : Value) (ts : List ByteArray) (ws : List Int) (h : WH w0 vt vw ts ws) (hok : WOk1 ts) (hfx : WOk2 ts ws) (k : Int) (a : Act) (w : World) : Prop := (0 ≤ k ∧ k ≤ ws.length) ∧ (NoErr (wgtAt ws) k) ∧ (IsW w0 w) ∧ Fr 48 [(38, vw), (39, .int .i64 ws.length), (40, .int .i64 k)] a
set_option maxRecDepth 100000 in
set_option maxHeartbeats 1000000 in
theorem crwt (w0 : World) (vt vw : Value) (ts : List ByteArray) (ws : List Int) (h : WH w0 vt vw ts ws) (hok : WOk1 ts) (hfx : WOk2 ts ws) (k : Int) : T3 Try.prog (fun a w => crwI w0 vt vw ts ws h hok hfx k a w) (sel [1, 1, 1, 1, 0, 1, 4, 4, 0] cwR) (fun a w => ∃ q, Fr 48 ((41, .bool q) :: [(40, .int .i64 k)]) a ∧ ((q = true ↔ k < ws.length) ∧ crwI w0 vt vw ts ws h hok hfx k a w)) No 9 (fun a w => IsW w0 w ∧ Fr 48 [(4, .int .i64 (weightsE ts ws))] a) := by
  refine T3.leaf ?_
  rintro Q JS JX JT K hS hK hX hE hT hR a w ⟨hk, hpre, hW, ⟨fr, rfl, q38, q39, q40, _⟩⟩
  have hl := h.wn
  rw [fr_cwR, show fr 38 = _ from q38, show fr 39 = _ from q39, show fr 40 = _ from q40]
  clear q38 q39 q40
  conv => arg 2; whnf
  by_cases hlt : k < ws.length
  · go_wp2_with fail
    refine Met.intro (hS _ _ ?_)
    exact ⟨true, Fr.of _ rfl ⟨rfl, rfl, trivial⟩, ⟨fun _ => hlt, fun _ => rfl⟩, hk, hpre, hW, Fr.of _ rfl ⟨rfl, rfl, rfl, trivial⟩⟩
  · have hpb : decide (k < (ws.length : Int)) = false := by simp; omega
    go_wp2_with fail
    refine Met.intro (hS _ _ ?_)
    exact ⟨false, Fr.of _ rfl ⟨rfl, rfl, trivial⟩, ⟨(fun h => by cases h), fun h => absurd h (by omega)⟩, hk, hpre, hW, Fr.of _ rfl ⟨rfl, rfl, rfl, trivial⟩⟩

set_option maxRecDepth 100000 in
set_option maxHeartbeats 1000000 in
theorem crwn (w0 : World) (vt vw : Value) (ts : List ByteArray) (ws : List Int) (h : WH w0 vt vw ts ws) (hok : WOk1 ts) (hfx : WOk2 ts ws) (k : Int) : T3 Try.prog (fun a w => (0 ≤ k ∧ k < ws.length) ∧ (NoErr (wgtAt ws) (k + 1)) ∧ (IsW w0 w) ∧ Fr 48 [(38, vw), (39, .int .i64 ws.length), (40, .int .i64 k)] a) (sel [1, 1, 1, 1, 0, 1, 4, 4, 1, 1, 1] cwR) (fun a w => crwI w0 vt vw ts ws h hok hfx (k + 1) a w) No 9 (fun a w => IsW w0 w ∧ Fr 48 [(4, .int .i64 (weightsE ts ws))] a) := by
  refine T3.leaf ?_
  rintro Q JS JX JT K hS hK hX hE hT hR a w ⟨hk, hpre, hW, ⟨fr, rfl, q38, q39, q40, _⟩⟩
  obtain ⟨hk0, hk1⟩ := hk
  have hl := h.wn
  rw [fr_cwR, show fr 38 = _ from q38, show fr 39 = _ from q39, show fr 40 = _ from q40]
  clear q38 q39 q40
  conv => arg 2; whnf
  go_wp2_with fail
  refine Met.intro (hS _ _ ?_)
  exact ⟨⟨by omega, by omega⟩, hpre, hW, Fr.of _ rfl ⟨rfl, rfl, rfl, trivial⟩⟩

set_option maxRecDepth 100000 in
set_option maxHeartbeats 1000000 in
theorem crwloop (w0 : World) (vt vw : Value) (ts : List ByteArray) (ws : List Int) (h : WH w0 vt vw ts ws) (hok : WOk1 ts) (hfx : WOk2 ts ws) : T3 Try.prog (fun a w => crwI w0 vt vw ts ws h hok hfx 0 a w) (sel [1, 1, 1, 1, 0, 1] cwR) (fun a w => (NoErr (wgtAt ws) ws.length) ∧ (IsW w0 w) ∧ Fr 48 [] a) No 9 (fun a w => IsW w0 w ∧ Fr 48 [(4, .int .i64 (weightsE ts ws))] a) := by
  refine T3.loop (c := (sel [1, 1, 1, 1, 0, 1, 4, 4] cwR)) (fun n a w => ∃ k : Int, (n : Int) = ws.length - k ∧ crwI w0 vt vw ts ws h hok hfx k a w) (fun a w h => ⟨(ws.length : Int).toNat, 0, by have := h.1.2; omega, h⟩) (fun n => T3.ex fun k => T3.pure fun hn => ?_)
  refine T3.seq (s := (sel [1, 1, 1, 1, 0, 1, 4, 4, 0] cwR)) (c := (sel [1, 1, 1, 1, 0, 1, 4, 4, 1] cwR)) ((crwt w0 vt vw ts ws h hok hfx k).noX) ?_
  refine T3.seq (s := (sel [1, 1, 1, 1, 0, 1, 4, 4, 1, 0] cwR)) (c := (sel [1, 1, 1, 1, 0, 1, 4, 4, 1, 1] cwR)) (S := fun a w => (0 ≤ k ∧ k < ws.length) ∧ (NoErr (wgtAt ws) k) ∧ (IsW w0 w) ∧ Fr 48 [(38, vw), (39, .int .i64 ws.length), (40, .int .i64 k)] a) ?_ (T3.seq (s := (sel [1, 1, 1, 1, 0, 1, 4, 4, 1, 1, 0] cwR)) (c := (sel [1, 1, 1, 1, 0, 1, 4, 4, 1, 1, 1] cwR)) (S := fun a w => (0 ≤ k ∧ k < ws.length) ∧ (NoErr (wgtAt ws) (k + 1)) ∧ (IsW w0 w) ∧ Fr 48 [(38, vw), (39, .int .i64 ws.length), (40, .int .i64 k)] a) (T3.noX (T3.mono (R' := fun a w => (0 ≤ k ∧ k < ws.length) ∧ (NoErr (wgtAt ws) k) ∧ (IsW w0 w) ∧ Fr 48 [(38, vw), (39, .int .i64 ws.length), (40, .int .i64 k)] a) (S' := fun a w => (0 ≤ k ∧ k < ws.length) ∧ (NoErr (wgtAt ws) (k + 1)) ∧ (IsW w0 w) ∧ Fr 48 [(38, vw), (39, .int .i64 ws.length), (40, .int .i64 k)] a) (crv w0 vt vw ts ws h k hok hfx) (fun a w ⟨hk, hp, hI⟩ => ⟨⟨hk, hp⟩, hI⟩) (fun a w ⟨⟨hk, hp⟩, hI⟩ => ⟨hk, hp, hI⟩) (fun _ _ q => q) (fun _ _ q => q))) ?_)
  · refine T3.cond (o := .tmp 41) (x := .skip) (y := .exit 3) (fun a w => k < ws.length ∧ crwI w0 vt vw ts ws h hok hfx k a w) (fun a w => ¬ k < ws.length ∧ crwI w0 vt vw ts ws h hok hfx k a w) ?_ (T3.skip ?_) (T3.exit ?_)
    · rintro a w ⟨q, hF, hq, hI⟩
      have he := hF.eval 41 (by decide) (v := .bool q) (by simp)
      cases q
      · exact .inr ⟨he, (fun h => by have := hq.2 h; cases this), hI⟩
      · exact .inl ⟨he, hq.1 rfl, hI⟩
    · rintro a w ⟨hlt, hk, hI⟩
      exact ⟨⟨hk.1, hlt⟩, hI⟩
    · rintro a w ⟨hlt, hk, hI⟩
      obtain rfl : k = ws.length := by omega
      exact ⟨hI.1, hI.2.1, hI.2.2.sub (by simp)⟩
  · intro a w hx
    have hk := hx.1
    exact (((crwn w0 vt vw ts ws h hok hfx k).noX).post (fun a w q => ⟨n - 1, by omega, k + 1, by omega, q⟩)) a w hx
set_option maxRecDepth 100000 in
set_option maxHeartbeats 1000000 in
theorem cr21 (w0 : World) (vt vw : Value) (ts : List ByteArray) (ws : List Int) (h : WH w0 vt vw ts ws) : T3 Try.prog (fun a w => (NoErr (wgtAt ws) ws.length) ∧ (IsW w0 w) ∧ Fr 48 [] a) (sel [1, 1, 1, 1, 1, 0] cwR) (fun a w => (NoErr (wgtAt ws) ws.length) ∧ (IsW w0 w) ∧ Fr 48 [(4, .int .i64 0)] a) No 9 (fun a w => IsW w0 w ∧ Fr 48 [(4, .int .i64 (weightsE ts ws))] a) := by
  refine T3.leaf ?_
  rintro Q JS JX JT K hS hK hX hE hT hR a w ⟨hpre, hW, ⟨fr, rfl, _⟩⟩
  have hpp := Lib.hid hpre
  clear hpre
  rw [fr_cwR]
  conv => arg 2; whnf
  go_wp2_with fail
  refine Met.intro (hS _ _ ?_)
  exact ⟨hpp.out, hW, Fr.of _ rfl ⟨rfl, trivial⟩⟩

set_option maxRecDepth 100000 in
set_option maxHeartbeats 1000000 in
theorem crall (w0 : World) (vt vw : Value) (ts : List ByteArray) (ws : List Int) (h : WH w0 vt vw ts ws) : T3 Try.prog (fun a w => (IsW w0 w) ∧ Fr 48 [(0, vt), (1, vw)] a) cwR No No 9 (fun a w => IsW w0 w ∧ Fr 48 [(4, .int .i64 (weightsE ts ws))] a) := by
  refine T3.seq (s := (sel [0] cwR)) (c := (sel [1] cwR)) (cr0 w0 vt vw ts ws h) ?_
  refine T3.seq (s := (sel [1, 0] cwR)) (c := (sel [1, 1] cwR)) (S := fun a w => WOk1 ts ∧ (IsW w0 w ∧ Fr 48 [(0, vt), (1, vw)] a)) ?_ (T3.pure fun hok => ?_)
  · refine T3.block (id' := 0) (c := (sel [1, 0, 4] cwR)) (by decide) ?_
    refine T3.seq (s := (sel [1, 0, 4, 0] cwR)) (c := (sel [1, 0, 4, 1] cwR)) (cr1 w0 vt vw ts ws h) (T3.iff (M := fun q w => (q = decide ((ts.length : Int) = 0)) ∧ IsW w0 w) (by decide) ?_ ?_)
    · refine T3.seq (s := (sel [1, 0, 4, 1, 2, 0] cwR)) (c := .ret) (t3_seqx (p := ts.length = 0) (cr2 w0 vt vw ts ws h) ?_) (T3.ret ?_)
      · rintro a w ⟨hF, hq, hW⟩
        exact ⟨by have := hq.symm; simp only [decide_eq_true_eq] at this; omega, hW, hF.tail⟩
      · rintro a w ⟨hp, hW, hF⟩
        exact ⟨hW, by rw [we_none hp]; exact hF⟩
    · refine T3.pre (R := fun a w => (ts.length ≠ 0) ∧ (IsW w0 w ∧ Fr 48 [(0, vt), (1, vw)] a)) (T3.pure fun hne => ?_) ?_
      · refine T3.seq (s := (sel [1, 0, 4, 1, 3, 0] cwR)) (c := (sel [1, 0, 4, 1, 3, 1] cwR)) (cr3 w0 vt vw ts ws h) (T3.iff (M := fun q w => (q = decide ((14 : Int) < ts.length)) ∧ IsW w0 w) (by decide) ?_ (T3.skip ?_))
        · refine T3.seq (s := (sel [1, 0, 4, 1, 3, 1, 2, 0] cwR)) (c := .ret) (t3_seqx (p := 14 < ts.length) (cr4 w0 vt vw ts ws h) ?_) (T3.ret ?_)
          · rintro a w ⟨hF, hq, hW⟩
            exact ⟨by have := hq.symm; simp only [decide_eq_true_eq] at this; omega, hW, hF.tail⟩
          · rintro a w ⟨hp, hW, hF⟩
            exact ⟨hW, by rw [we_large hne hp]; exact hF⟩
        · rintro a w ⟨hF, hq, hW⟩
          exact ⟨⟨hne, by have := hq.symm; simp only [decide_eq_false_iff_not] at this; omega⟩, hW, hF.tail⟩
      · rintro a w ⟨hF, hq, hW⟩
        exact ⟨by have := hq.symm; simp only [decide_eq_false_iff_not] at this; omega, hW, hF.tail⟩
  refine T3.seq (s := (sel [1, 1, 0] cwR)) (c := (sel [1, 1, 1] cwR)) (T3.seq (s := (sel [1, 1, 0, 0] cwR)) (c := (sel [1, 1, 0, 1] cwR)) (cr5 w0 vt vw ts ws h) (crtloop w0 vt vw ts ws h hok)) ?_
  refine T3.seq (s := (sel [1, 1, 1, 0] cwR)) (c := (sel [1, 1, 1, 1] cwR)) (S := fun a w => WOk2 ts ws ∧ (IsW w0 w ∧ Fr 48 [(0, vt), (1, vw)] a)) ?_ (T3.pure fun hfx => ?_)
  · refine T3.test (s := (sel [1, 1, 1, 0, 0] cwR)) (x := (sel [1, 1, 1, 0, 1, 2] cwR)) (y := .skip) (C := fun q => ((NoErr (teamAt ts) ts.length) ∧ q = decide ((ws.length : Int) ≠ ts.length))) (W := fun w => IsW w0 w) (by decide) (cr13 w0 vt vw ts ws h) ?_ (T3.skip ?_)
    · refine T3.seq (s := (sel [1, 1, 1, 0, 1, 2, 0] cwR)) (c := .ret) (t3_seqx (p := NoErr (teamAt ts) ts.length ∧ ws.length ≠ ts.length) (cr14 w0 vt vw ts ws h) ?_) (T3.ret ?_)
      · rintro a w ⟨hF, ⟨hp, hq⟩, hW⟩
        exact ⟨⟨hp, by have := hq.symm; simp only [decide_eq_true_eq] at this; omega⟩, hp, hW, hF.tail⟩
      · rintro a w ⟨hp, hW, hF⟩
        exact ⟨hW, by rw [we_form hok hp.1 hp.2]; exact hF⟩
    · rintro a w ⟨⟨hp, hq⟩, hW, hF⟩
      exact ⟨⟨hp, by have := hq.symm; simp only [decide_eq_false_iff_not] at this; omega⟩, hW, hF⟩
  refine T3.seq (s := (sel [1, 1, 1, 1, 0] cwR)) (c := (sel [1, 1, 1, 1, 1] cwR)) (T3.seq (s := (sel [1, 1, 1, 1, 0, 0] cwR)) (c := (sel [1, 1, 1, 1, 0, 1] cwR)) (cr15 w0 vt vw ts ws h) (crwloop w0 vt vw ts ws h hok hfx)) ?_
  refine T3.seq (s := (sel [1, 1, 1, 1, 1, 0] cwR)) (c := .ret) (cr21 w0 vt vw ts ws h) (T3.ret ?_)
  rintro a w ⟨hp, hW, hF⟩
  exact ⟨hW, by rw [we_last hok hfx.1 hfx.2, firstErr_none hp]; exact hF⟩

set_option maxRecDepth 100000 in
set_option maxHeartbeats 1000000 in
theorem weights_ref (w0 : World) (vt vw : Value) (ts : List ByteArray) (ws : List Int) (h : WH w0 vt vw ts ws) : Calls Try.prog 15 #[vt, vw] w0 fun e w' => e = .returned (.int .i64 (weightsE ts ws)) ∧ w0 = w' := by
  have hall := crall w0 vt vw ts ws h
  go_enter Try.func15, Try.ntmps15
  refine T3.done (s := cwR) hall ⟨rfl, Fr.of _ rfl ⟨rfl, rfl, trivial⟩⟩ ?_
  rintro a w ⟨hw, fr, rfl, q4, _⟩
  obtain rfl : w = w0 := hw
  rw [fr_cwR, show fr 4 = _ from q4]
  go_ret
  exact ⟨rfl, rfl⟩

end Go.Proofs.Ytkdimgghljklmaa
