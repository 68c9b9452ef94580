/-
  Contracts and lemmas towards the statement, of several parts; each part says ahead of it what it holds and under which conditions.
-/
import Derived.Test.YtkdimgghljklmaaMg3
import Derived.Test.YtkdimgghljklmaaMg1
import Derived.Test.YtkdimgghljklmaaMg2
import Derived.Deep.RegionHeld3
import Derived.StillTactics
import Derived.Laws.Pointers
import Derived.Laws.StructEq
import Derived.Lib.MinMax
import Derived.Laws.MakeOwn
import Derived.Laws.OwnMore
/-
  Finals: what is wrong with seeds, the program's and the reference's look. Conditions: strings are no longer than Go's; at most 1000 seeds.
-/
set_option linter.unusedVariables false
namespace Go.Proofs.Ytkdimgghljklmaa
open Go.RowKit Go.Bw
/-- The data of a call. -/
structure SdH (w0 : World) (vt : Value) (ts : List ByteArray) : Prop where
  t : Row w0 0 1 vt ts.length (cellsOf encSt ts)
  z : ∀ s ∈ ts, s.size ≤ 9223372036854775807
  tn : ts.length ≤ 1000
theorem SdH.below {w0 w' : World} {vt : Value} {ts : List ByteArray} (h : SdH w0 vt ts) (b : Below w0.heap.size w0 w') : SdH w' vt ts := ⟨h.t.below b, h.z, h.tn⟩
def seedsE (ts : List ByteArray) : Int := if ts.length < 2 then 8 else if 20 < ts.length then 2 else firstErr (teamAt ts) ts.length
/-- Not too few, and not too many. -/
structure SOk (ts : List ByteArray) : Prop where
  lo : ¬ ts.length < 2
  hi : ¬ 20 < ts.length
theorem se_none {ts : List ByteArray} (h : ts.length < 2) : seedsE ts = 8 := by unfold seedsE; rw [if_pos h]
theorem se_large {ts : List ByteArray} (h0 : ¬ ts.length < 2) (h : 20 < ts.length) : seedsE ts = 2 := by unfold seedsE; rw [if_neg h0, if_pos h]
theorem se_team {ts : List ByteArray} (h : SOk ts) {k : Int} (hk0 : 0 ≤ k) (hk1 : k < ts.length) (hn : NoErr (teamAt ts) k) (he : teamAt ts k ≠ 0) : seedsE ts = teamAt ts k := by
  have := firstErr_hit hn hk0 hk1 he
  unfold seedsE
  rw [if_neg h.lo, if_neg h.hi, this]
theorem se_ok {ts : List ByteArray} (h : SOk ts) (hn : NoErr (teamAt ts) ts.length) : seedsE ts = 0 := by
  unfold seedsE
  rw [if_neg h.lo, if_neg h.hi, firstErr_none hn]
/-- Seeds that are right. -/
structure SGood (ts : List ByteArray) : Prop where
  n2 : 2 ≤ ts.length
  n20 : ts.length ≤ 20
  no : NoErr (teamAt ts) ts.length
theorem s_good {ts : List ByteArray} (h : seedsE ts = 0) : SGood ts := by
  unfold seedsE at h
  have a1 : ¬ ts.length < 2 := fun e => by rw [if_pos e] at h; cases h
  rw [if_neg a1] at h
  have a2 : ¬ 20 < ts.length := fun e => by rw [if_pos e] at h; cases h
  rw [if_neg a2] at h
  exact ⟨by omega, by omega, fun j h0 h1 => firstErr_zero h j h0 h1⟩
noncomputable def csP : Code := (Try.f32.body).getD .skip
set_option maxRecDepth 100000 in
theorem fr_csP (f : Nat → Value) : frame 29 f = ⟨#[f 0, f 1, f 2, f 3, f 4, f 5, f 6, f 7, f 8, f 9, f 10, f 11, f 12, f 13, f 14, f 15, f 16, f 17, f 18, f 19, f 20, f 21, f 22, f 23, f 24, f 25, f 26, f 27, f 28], []⟩ := by rfl
set_option maxRecDepth 100000 in
set_option maxHeartbeats 1000000 in
theorem cs0 (w0 : World) (vt : Value) (ts : List ByteArray) (h : SdH w0 vt ts) : T3 Try.prog (fun a w => (IsW w0 w) ∧ Fr 29 [(0, vt)] a) (sel [0] csP) (fun a w => (IsW w0 w) ∧ Fr 29 [(0, vt)] a) No 9 (fun a w => IsW w0 w ∧ Fr 29 [(2, .int .i64 (seedsE ts))] a) := by
  refine T3.leaf ?_
  rintro Q JS JX JT K hS hK hX hE hT hR a w ⟨hW, ⟨fr, rfl, q0, _⟩⟩
  obtain ⟨p1, c1, hv1⟩ := h.t.shape
  subst hv1
  rw [fr_csP, show fr 0 = _ from q0]
  clear q0
  conv => arg 2; whnf
  go_wp2_with fail
  refine Met.intro (hS _ _ ?_)
  exact ⟨hW, Fr.of _ rfl ⟨rfl, trivial⟩⟩

set_option maxRecDepth 100000 in
set_option maxHeartbeats 1000000 in
theorem cs1 (w0 : World) (vt : Value) (ts : List ByteArray) (h : SdH w0 vt ts) : T3 Try.prog (fun a w => (IsW w0 w) ∧ Fr 29 [(0, vt)] a) (sel [1, 0, 4, 0] csP) (fun a w => ∃ q, Fr 29 ((5, .bool q) :: [(0, vt)]) a ∧ ((q = decide ((ts.length : Int) < 2)) ∧ IsW w0 w)) No 9 (fun a w => IsW w0 w ∧ Fr 29 [(2, .int .i64 (seedsE ts))] a) := by
  refine T3.leaf ?_
  rintro Q JS JX JT K hS hK hX hE hT hR a w ⟨hW, ⟨fr, rfl, q0, _⟩⟩
  obtain ⟨p1, c1, hv1⟩ := h.t.shape
  subst hv1
  rw [fr_csP, show fr 0 = _ from q0]
  clear q0
  conv => arg 2; whnf
  go_wp2_with fail
  refine Met.intro (hS _ _ ?_)
  exact ⟨_, Fr.of _ rfl ⟨rfl, rfl, trivial⟩, rfl, hW⟩

set_option maxRecDepth 100000 in
set_option maxHeartbeats 1000000 in
theorem cs3 (w0 : World) (vt : Value) (ts : List ByteArray) (h : SdH w0 vt ts) : T3 Try.prog (fun a w => (IsW w0 w) ∧ Fr 29 [(0, vt)] a) (sel [1, 0, 4, 1, 3, 0] csP) (fun a w => ∃ q, Fr 29 ((9, .bool q) :: [(0, vt)]) a ∧ ((q = decide ((20 : Int) < ts.length)) ∧ IsW w0 w)) No 9 (fun a w => IsW w0 w ∧ Fr 29 [(2, .int .i64 (seedsE ts))] a) := by
  refine T3.leaf ?_
  rintro Q JS JX JT K hS hK hX hE hT hR a w ⟨hW, ⟨fr, rfl, q0, _⟩⟩
  obtain ⟨p1, c1, hv1⟩ := h.t.shape
  subst hv1
  rw [fr_csP, show fr 0 = _ from q0]
  clear q0
  conv => arg 2; whnf
  go_wp2_with fail
  refine Met.intro (hS _ _ ?_)
  exact ⟨_, Fr.of _ rfl ⟨rfl, rfl, trivial⟩, rfl, hW⟩

set_option maxRecDepth 100000 in
set_option maxHeartbeats 1000000 in
theorem cs2 (w0 : World) (vt : Value) (ts : List ByteArray) (h : SdH w0 vt ts) : T3 Try.prog (fun a w => (IsW w0 w) ∧ Fr 29 [(0, vt)] a) (sel [1, 0, 4, 1, 2, 0] csP) (fun a w => (IsW w0 w) ∧ Fr 29 [(2, .int .i64 8)] a) No 9 (fun a w => IsW w0 w ∧ Fr 29 [(2, .int .i64 (seedsE ts))] a) := by
  refine T3.leaf ?_
  rintro Q JS JX JT K hS hK hX hE hT hR a w ⟨hW, ⟨fr, rfl, q0, _⟩⟩
  rw [fr_csP, show fr 0 = _ from q0]
  clear q0
  conv => arg 2; whnf
  go_wp2_with fail
  refine Met.intro (hS _ _ ?_)
  exact ⟨hW, Fr.of _ rfl ⟨rfl, trivial⟩⟩

set_option maxRecDepth 100000 in
set_option maxHeartbeats 1000000 in
theorem cs4 (w0 : World) (vt : Value) (ts : List ByteArray) (h : SdH w0 vt ts) : T3 Try.prog (fun a w => (IsW w0 w) ∧ Fr 29 [(0, vt)] a) (sel [1, 0, 4, 1, 3, 1, 2, 0] csP) (fun a w => (IsW w0 w) ∧ Fr 29 [(2, .int .i64 2)] a) No 9 (fun a w => IsW w0 w ∧ Fr 29 [(2, .int .i64 (seedsE ts))] a) := by
  refine T3.leaf ?_
  rintro Q JS JX JT K hS hK hX hE hT hR a w ⟨hW, ⟨fr, rfl, q0, _⟩⟩
  rw [fr_csP, show fr 0 = _ from q0]
  clear q0
  conv => arg 2; whnf
  go_wp2_with fail
  refine Met.intro (hS _ _ ?_)
  exact ⟨hW, Fr.of _ rfl ⟨rfl, trivial⟩⟩

set_option maxRecDepth 100000 in
set_option maxHeartbeats 1000000 in
theorem cs5 (w0 : World) (vt : Value) (ts : List ByteArray) (h : SdH w0 vt ts) : T3 Try.prog (fun a w => (IsW w0 w) ∧ Fr 29 [(0, vt)] a) (sel [1, 1, 0, 0] csP) (fun a w => (0 ≤ (0 : Int) ∧ (0 : Int) ≤ ts.length) ∧ (NoErr (teamAt ts) 0) ∧ (IsW w0 w) ∧ Fr 29 [(0, vt), (13, vt), (14, .int .i64 ts.length), (15, .int .i64 0)] a) No 9 (fun a w => IsW w0 w ∧ Fr 29 [(2, .int .i64 (seedsE ts))] a) := by
  refine T3.leaf ?_
  rintro Q JS JX JT K hS hK hX hE hT hR a w ⟨hW, ⟨fr, rfl, q0, _⟩⟩
  obtain ⟨p1, c1, hv1⟩ := h.t.shape
  subst hv1
  rw [fr_csP, show fr 0 = _ from q0]
  clear q0
  conv => arg 2; whnf
  go_wp2_with fail
  refine Met.intro (hS _ _ ?_)
  exact ⟨⟨by omega, by omega⟩, NoErr.zero _, hW, Fr.of _ rfl ⟨rfl, rfl, rfl, rfl, trivial⟩⟩

set_option maxRecDepth 100000 in
set_option maxHeartbeats 1000000 in
theorem cs7 (w0 : World) (vt : Value) (ts : List ByteArray) (h : SdH w0 vt ts) (k : Int) : T3 Try.prog (fun a w => ((0 ≤ k ∧ k < ts.length) ∧ (NoErr (teamAt ts) k)) ∧ (IsW w0 w) ∧ Fr 29 [(0, vt), (13, vt), (14, .int .i64 ts.length), (15, .int .i64 k)] a) (sel [1, 1, 0, 1, 4, 4, 1, 1, 0, 4, 0] csP) (fun a w => ((0 ≤ k ∧ k < ts.length) ∧ (NoErr (teamAt ts) k)) ∧ (IsW w0 w) ∧ Fr 29 [(0, vt), (3, .int .i64 k), (4, .string (geta ts k)), (13, vt), (14, .int .i64 ts.length), (15, .int .i64 k)] a) No 9 (fun a w => IsW w0 w ∧ Fr 29 [(2, .int .i64 (seedsE ts))] a) := by
  refine T3.leaf ?_
  rintro Q JS JX JT K hS hK hX hE hT hR a w ⟨hpre, hW, ⟨fr, rfl, q0, q13, q14, q15, _⟩⟩
  obtain ⟨hk0, hk1⟩ := hpre.1
  obtain ⟨_, hcs⟩ := h.t.els encSt_length (by decide)
  rcases hcs with ⟨rfl, h0⟩ | ⟨bz, off, cap, rfl, _, hbz, hnc, hcm, hcell⟩
  · omega
  have t0 := hcell k hk0 hk1 0 _ rfl
  rw [Nat.mul_one, Nat.add_zero] at t0
  clear hcell
  obtain rfl : w = w0 := hW
  rw [fr_csP, show fr 0 = _ from q0, show fr 13 = _ from q13, show fr 14 = _ from q14, show fr 15 = _ from q15]
  clear q0 q13 q14 q15
  conv => arg 2; whnf
  go_wp2_with fail
  refine Met.intro (hS _ _ ?_)
  exact ⟨hpre, rfl, Fr.of _ rfl ⟨rfl, rfl, rfl, rfl, rfl, rfl, trivial⟩⟩

set_option maxRecDepth 100000 in
set_option maxHeartbeats 1000000 in
theorem cs8 (w0 : World) (vt : Value) (ts : List ByteArray) (h : SdH w0 vt ts) (k : Int) : T3 Try.prog (fun a w => ((0 ≤ k ∧ k < ts.length) ∧ (NoErr (teamAt ts) k)) ∧ (IsW w0 w) ∧ Fr 29 [(0, vt), (3, .int .i64 k), (4, .string (geta ts k)), (13, vt), (14, .int .i64 ts.length), (15, .int .i64 k)] a) (sel [1, 1, 0, 1, 4, 4, 1, 1, 0, 4, 1, 0, 0] csP) (fun a w => ∃ q, Fr 29 ((22, .bool q) :: [(0, vt), (3, .int .i64 k), (4, .string (geta ts k)), (13, vt), (14, .int .i64 ts.length), (15, .int .i64 k)]) a ∧ ((((0 ≤ k ∧ k < ts.length) ∧ (NoErr (teamAt ts) k)) ∧ q = !keyB (geta ts k)) ∧ IsW w0 w)) No 9 (fun a w => IsW w0 w ∧ Fr 29 [(2, .int .i64 (seedsE ts))] a) := by
  refine T3.leaf ?_
  rintro Q JS JX JT K hS hK hX hE hT hR a w ⟨hpre, hW, ⟨fr, rfl, q0, q3, q4, q13, q14, q15, _⟩⟩
  have HK := Lib.hid (key_prog (geta ts k) w (h.z _ (geta_mem hpre.1.1 hpre.1.2)))
  generalize geta ts k = x at *
  generalize keyB x = q at *
  rw [fr_csP, show fr 0 = _ from q0, show fr 3 = _ from q3, show fr 4 = _ from q4, show fr 13 = _ from q13, show fr 14 = _ from q14, show fr 15 = _ from q15]
  clear q0 q3 q4 q13 q14 q15
  conv => arg 2; whnf
  go_wp2_with fail
  refine HK.out.mono ?_
  rintro e w1 ⟨rfl, rfl⟩
  go_wp2_with fail
  refine Met.intro (hS _ _ ?_)
  exact ⟨_, Fr.of _ rfl ⟨rfl, rfl, rfl, rfl, rfl, rfl, rfl, trivial⟩, ⟨hpre, rfl⟩, hW⟩

set_option maxRecDepth 100000 in
set_option maxHeartbeats 1000000 in
theorem cs9 (w0 : World) (vt : Value) (ts : List ByteArray) (h : SdH w0 vt ts) (k : Int) : T3 Try.prog (fun a w => ((0 ≤ k ∧ k < ts.length) ∧ (NoErr (teamAt ts) k)) ∧ (IsW w0 w) ∧ Fr 29 [(0, vt), (3, .int .i64 k), (4, .string (geta ts k)), (13, vt), (14, .int .i64 ts.length), (15, .int .i64 k)] a) (sel [1, 1, 0, 1, 4, 4, 1, 1, 0, 4, 1, 0, 1, 2, 0] csP) (fun a w => (IsW w0 w) ∧ Fr 29 [(2, .int .i64 5)] a) No 9 (fun a w => IsW w0 w ∧ Fr 29 [(2, .int .i64 (seedsE ts))] a) := by
  refine T3.leaf ?_
  rintro Q JS JX JT K hS hK hX hE hT hR a w ⟨hpre, hW, ⟨fr, rfl, q0, q3, q4, q13, q14, q15, _⟩⟩
  rw [fr_csP, show fr 0 = _ from q0, show fr 3 = _ from q3, show fr 4 = _ from q4, show fr 13 = _ from q13, show fr 14 = _ from q14, show fr 15 = _ from q15]
  clear q0 q3 q4 q13 q14 q15
  conv => arg 2; whnf
  go_wp2_with fail
  refine Met.intro (hS _ _ ?_)
  exact ⟨hW, Fr.of _ rfl ⟨rfl, trivial⟩⟩

set_option maxRecDepth 100000 in
set_option maxHeartbeats 1000000 in
theorem cs10 (w0 : World) (vt : Value) (ts : List ByteArray) (h : SdH w0 vt ts) (k : Int) : T3 Try.prog (fun a w => ((0 ≤ k ∧ k < ts.length) ∧ (NoErr (teamAt ts) k) ∧ keyB (geta ts k) = true) ∧ (IsW w0 w) ∧ Fr 29 [(0, vt), (3, .int .i64 k), (4, .string (geta ts k)), (13, vt), (14, .int .i64 ts.length), (15, .int .i64 k)] a) (sel [1, 1, 0, 1, 4, 4, 1, 1, 0, 4, 1, 1, 0] csP) (fun a w => ∃ q, Fr 29 ((27, .bool q) :: [(0, vt), (3, .int .i64 k), (4, .string (geta ts k)), (13, vt), (14, .int .i64 ts.length), (15, .int .i64 k)]) a ∧ ((((0 ≤ k ∧ k < ts.length) ∧ (NoErr (teamAt ts) k) ∧ keyB (geta ts k) = true) ∧ q = hasTo ts k (geta ts k)) ∧ IsW w0 w)) No 9 (fun a w => IsW w0 w ∧ Fr 29 [(2, .int .i64 (seedsE ts))] a) := by
  refine T3.leaf ?_
  rintro Q JS JX JT K hS hK hX hE hT hR a w ⟨hpre, hW, ⟨fr, rfl, q0, q3, q4, q13, q14, q15, _⟩⟩
  have HP := Lib.hid hpre
  obtain ⟨⟨hk0, hk1⟩, _⟩ := hpre
  obtain ⟨_, hcs⟩ := h.t.els encSt_length (by decide)
  rcases hcs with ⟨rfl, h0⟩ | ⟨bz, off, cap, rfl, _, hbz, hnc, hcm, hcell⟩
  · omega
  have HC := Lib.hid (contains_str _ k.toNat (ts.take k.toNat) (geta ts k) 0 w0 (Row.first encSt_length h.t rfl (by omega)))
  have hbq : (0 : Int) ≤ k ∧ k ≤ ts.length ∧ (ts.length : Int) ≤ cap := by omega
  clear hcell
  obtain rfl : w = w0 := hW
  have HE := Lib.hid (show hasS (ts.take k.toNat) (geta ts k) = hasTo ts k (geta ts k) from rfl)
  rw [HE.out] at HC
  generalize geta ts k = x at *
  generalize hasTo ts k x = q at *
  rw [fr_csP, show fr 0 = _ from q0, show fr 3 = _ from q3, show fr 4 = _ from q4, show fr 13 = _ from q13, show fr 14 = _ from q14, show fr 15 = _ from q15]
  clear q0 q3 q4 q13 q14 q15
  conv => arg 2; whnf
  go_wp2_with fail
  refine HC.out.mono ?_
  rintro e w1 ⟨rfl, rfl⟩
  go_wp2_with fail
  have hpre := HP.out
  refine Met.intro (hS _ _ ?_)
  exact ⟨_, Fr.of _ rfl ⟨rfl, rfl, rfl, rfl, rfl, rfl, rfl, trivial⟩, ⟨hpre, rfl⟩, rfl⟩

set_option maxRecDepth 100000 in
set_option maxHeartbeats 1000000 in
theorem cs11 (w0 : World) (vt : Value) (ts : List ByteArray) (h : SdH w0 vt ts) (k : Int) : T3 Try.prog (fun a w => ((0 ≤ k ∧ k < ts.length) ∧ (NoErr (teamAt ts) k) ∧ keyB (geta ts k) = true) ∧ (IsW w0 w) ∧ Fr 29 [(0, vt), (3, .int .i64 k), (4, .string (geta ts k)), (13, vt), (14, .int .i64 ts.length), (15, .int .i64 k)] a) (sel [1, 1, 0, 1, 4, 4, 1, 1, 0, 4, 1, 1, 1, 2, 0] csP) (fun a w => (IsW w0 w) ∧ Fr 29 [(2, .int .i64 6)] a) No 9 (fun a w => IsW w0 w ∧ Fr 29 [(2, .int .i64 (seedsE ts))] a) := by
  refine T3.leaf ?_
  rintro Q JS JX JT K hS hK hX hE hT hR a w ⟨hpre, hW, ⟨fr, rfl, q0, q3, q4, q13, q14, q15, _⟩⟩
  rw [fr_csP, show fr 0 = _ from q0, show fr 3 = _ from q3, show fr 4 = _ from q4, show fr 13 = _ from q13, show fr 14 = _ from q14, show fr 15 = _ from q15]
  clear q0 q3 q4 q13 q14 q15
  conv => arg 2; whnf
  go_wp2_with fail
  refine Met.intro (hS _ _ ?_)
  exact ⟨hW, Fr.of _ rfl ⟨rfl, trivial⟩⟩

set_option maxRecDepth 100000 in
set_option maxHeartbeats 1000000 in
theorem csb (w0 : World) (vt : Value) (ts : List ByteArray) (h : SdH w0 vt ts) (k : Int) (hok : SOk ts) : T3 Try.prog (fun a w => ((0 ≤ k ∧ k < ts.length) ∧ (NoErr (teamAt ts) k)) ∧ (IsW w0 w) ∧ Fr 29 [(0, vt), (13, vt), (14, .int .i64 ts.length), (15, .int .i64 k)] a) (sel [1, 1, 0, 1, 4, 4, 1, 1, 0] csP) (fun a w => ((0 ≤ k ∧ k < ts.length) ∧ (NoErr (teamAt ts) (k + 1))) ∧ (IsW w0 w) ∧ Fr 29 [(0, vt), (13, vt), (14, .int .i64 ts.length), (15, .int .i64 k)] a) No 9 (fun a w => IsW w0 w ∧ Fr 29 [(2, .int .i64 (seedsE ts))] a) := by
  refine T3.block (id' := 2) (c := (sel [1, 1, 0, 1, 4, 4, 1, 1, 0, 4] csP)) (by decide) ?_
  refine T3.seq (s := (sel [1, 1, 0, 1, 4, 4, 1, 1, 0, 4, 0] csP)) (c := (sel [1, 1, 0, 1, 4, 4, 1, 1, 0, 4, 1] csP)) (cs7 w0 vt ts h k) ?_
  refine T3.seq (s := (sel [1, 1, 0, 1, 4, 4, 1, 1, 0, 4, 1, 0] csP)) (c := (sel [1, 1, 0, 1, 4, 4, 1, 1, 0, 4, 1, 1] csP)) (S := (fun a w => ((0 ≤ k ∧ k < ts.length) ∧ (NoErr (teamAt ts) k) ∧ keyB (geta ts k) = true) ∧ (IsW w0 w) ∧ Fr 29 [(0, vt), (3, .int .i64 k), (4, .string (geta ts k)), (13, vt), (14, .int .i64 ts.length), (15, .int .i64 k)] a)) ?_ ?_
  · refine T3.test (s := (sel [1, 1, 0, 1, 4, 4, 1, 1, 0, 4, 1, 0, 0] csP)) (x := (sel [1, 1, 0, 1, 4, 4, 1, 1, 0, 4, 1, 0, 1, 2] csP)) (y := .skip) (C := fun q => (((0 ≤ k ∧ k < ts.length) ∧ (NoErr (teamAt ts) k)) ∧ q = !keyB (geta ts k))) (W := fun w => IsW w0 w) (by decide) (cs8 w0 vt ts h k) ?_ (T3.skip ?_)
    · refine T3.seq (s := (sel [1, 1, 0, 1, 4, 4, 1, 1, 0, 4, 1, 0, 1, 2, 0] csP)) (c := .ret) (t3_seqx (p := ((0 ≤ k ∧ k < ts.length) ∧ (NoErr (teamAt ts) k)) ∧ keyB (geta ts k) = false) (cs9 w0 vt ts h k) ?_) (T3.ret ?_)
      · rintro a w ⟨hF, ⟨hp, hq⟩, hW⟩
        exact ⟨⟨hp, by simpa using hq.symm⟩, hp, hW, hF.tail⟩
      · rintro a w ⟨⟨hp, hkb⟩, hW, hF⟩
        have e : teamAt ts k = 5 := by unfold teamAt; rw [if_pos hkb]
        exact ⟨hW, by rw [se_team hok hp.1.1 hp.1.2 hp.2 (by rw [e]; decide), e]; exact hF⟩
    · rintro a w ⟨⟨hp, hq⟩, hW, hF⟩
      exact ⟨⟨hp.1, hp.2, by simpa using hq.symm⟩, hW, hF⟩
  · refine T3.test (s := (sel [1, 1, 0, 1, 4, 4, 1, 1, 0, 4, 1, 1, 0] csP)) (x := (sel [1, 1, 0, 1, 4, 4, 1, 1, 0, 4, 1, 1, 1, 2] csP)) (y := .skip) (C := fun q => (((0 ≤ k ∧ k < ts.length) ∧ (NoErr (teamAt ts) k) ∧ keyB (geta ts k) = true) ∧ q = hasTo ts k (geta ts k))) (W := fun w => IsW w0 w) (by decide) ((cs10 w0 vt ts h k).pre (fun a w q => ⟨⟨q.1.1, q.1.2.1, q.1.2.2⟩, q.2⟩)) ?_ (T3.skip ?_)
    · refine T3.seq (s := (sel [1, 1, 0, 1, 4, 4, 1, 1, 0, 4, 1, 1, 1, 2, 0] csP)) (c := .ret) (t3_seqx (p := ((0 ≤ k ∧ k < ts.length) ∧ (NoErr (teamAt ts) k) ∧ keyB (geta ts k) = true) ∧ hasTo ts k (geta ts k) = true) (cs11 w0 vt ts h k) ?_) (T3.ret ?_)
      · rintro a w ⟨hF, ⟨hp, hq⟩, hW⟩
        exact ⟨⟨hp, hq.symm⟩, hp, hW, hF.tail⟩
      · rintro a w ⟨⟨hp, hh⟩, hW, hF⟩
        have e : teamAt ts k = 6 := by unfold teamAt; rw [if_neg (by rw [hp.2.2]; decide), if_pos hh]
        exact ⟨hW, by rw [se_team hok hp.1.1 hp.1.2 hp.2.1 (by rw [e]; decide), e]; exact hF⟩
    · rintro a w ⟨⟨hp, hq⟩, hW, hF⟩
      refine ⟨⟨hp.1, hp.2.1.step ?_⟩, hW, hF.sub (by simp)⟩
      unfold teamAt
      rw [if_neg (by rw [hp.2.2]; decide), if_neg (by rw [← hq]; decide)]

def cstI (w0 : World) (vt : Value) (ts : List ByteArray) (h : SdH w0 vt ts) (hok : SOk ts) (k : Int) (a : Act) (w : World) : Prop := (0 ≤ k ∧ k ≤ ts.length) ∧ (NoErr (teamAt ts) k) ∧ (IsW w0 w) ∧ Fr 29 [(0, vt), (13, vt), (14, .int .i64 ts.length), (15, .int .i64 k)] a
set_option maxRecDepth 100000 in
set_option maxHeartbeats 1000000 in
theorem cstt (w0 : World) (vt : Value) (ts : List ByteArray) (h : SdH w0 vt ts) (hok : SOk ts) (k : Int) : T3 Try.prog (fun a w => cstI w0 vt ts h hok k a w) (sel [1, 1, 0, 1, 4, 4, 0] csP) (fun a w => ∃ q, Fr 29 ((16, .bool q) :: [(15, .int .i64 k)]) a ∧ ((q = true ↔ k < ts.length) ∧ cstI w0 vt ts h hok k a w)) No 9 (fun a w => IsW w0 w ∧ Fr 29 [(2, .int .i64 (seedsE ts))] a) := by
  refine T3.leaf ?_
  rintro Q JS JX JT K hS hK hX hE hT hR a w ⟨hk, hpre, hW, ⟨fr, rfl, q0, q13, q14, q15, _⟩⟩
  have hl := h.tn
  rw [fr_csP, show fr 0 = _ from q0, show fr 13 = _ from q13, show fr 14 = _ from q14, show fr 15 = _ from q15]
  clear q0 q13 q14 q15
  conv => arg 2; whnf
  by_cases hlt : k < ts.length
  · go_wp2_with fail
    refine Met.intro (hS _ _ ?_)
    exact ⟨true, Fr.of _ rfl ⟨rfl, rfl, trivial⟩, ⟨fun _ => hlt, fun _ => rfl⟩, hk, hpre, hW, Fr.of _ rfl ⟨rfl, rfl, rfl, rfl, trivial⟩⟩
  · have hpb : decide (k < (ts.length : Int)) = false := by simp; omega
    go_wp2_with fail
    refine Met.intro (hS _ _ ?_)
    exact ⟨false, Fr.of _ rfl ⟨rfl, rfl, trivial⟩, ⟨(fun h => by cases h), fun h => absurd h (by omega)⟩, hk, hpre, hW, Fr.of _ rfl ⟨rfl, rfl, rfl, rfl, trivial⟩⟩

set_option maxRecDepth 100000 in
set_option maxHeartbeats 1000000 in
theorem cstn (w0 : World) (vt : Value) (ts : List ByteArray) (h : SdH w0 vt ts) (hok : SOk ts) (k : Int) : T3 Try.prog (fun a w => (0 ≤ k ∧ k < ts.length) ∧ (NoErr (teamAt ts) (k + 1)) ∧ (IsW w0 w) ∧ Fr 29 [(0, vt), (13, vt), (14, .int .i64 ts.length), (15, .int .i64 k)] a) (sel [1, 1, 0, 1, 4, 4, 1, 1, 1] csP) (fun a w => cstI w0 vt ts h hok (k + 1) a w) No 9 (fun a w => IsW w0 w ∧ Fr 29 [(2, .int .i64 (seedsE ts))] a) := by
  refine T3.leaf ?_
  rintro Q JS JX JT K hS hK hX hE hT hR a w ⟨hk, hpre, hW, ⟨fr, rfl, q0, q13, q14, q15, _⟩⟩
  obtain ⟨hk0, hk1⟩ := hk
  have hl := h.tn
  rw [fr_csP, show fr 0 = _ from q0, show fr 13 = _ from q13, show fr 14 = _ from q14, show fr 15 = _ from q15]
  clear q0 q13 q14 q15
  conv => arg 2; whnf
  go_wp2_with fail
  refine Met.intro (hS _ _ ?_)
  exact ⟨⟨by omega, by omega⟩, hpre, hW, Fr.of _ rfl ⟨rfl, rfl, rfl, rfl, trivial⟩⟩

set_option maxRecDepth 100000 in
set_option maxHeartbeats 1000000 in
theorem cstloop (w0 : World) (vt : Value) (ts : List ByteArray) (h : SdH w0 vt ts) (hok : SOk ts) : T3 Try.prog (fun a w => cstI w0 vt ts h hok 0 a w) (sel [1, 1, 0, 1] csP) (fun a w => (NoErr (teamAt ts) ts.length) ∧ (IsW w0 w) ∧ Fr 29 [] a) No 9 (fun a w => IsW w0 w ∧ Fr 29 [(2, .int .i64 (seedsE ts))] a) := by
  refine T3.loop (c := (sel [1, 1, 0, 1, 4, 4] csP)) (fun ng_ a w => ∃ k : Int, (ng_ : Int) = ts.length - k ∧ cstI w0 vt ts h hok k a w) (fun a w h => ⟨(ts.length : Int).toNat, 0, by have := h.1.2; omega, h⟩) (fun ng_ => T3.ex fun k => T3.pure fun hng_ => ?_)
  refine T3.seq (s := (sel [1, 1, 0, 1, 4, 4, 0] csP)) (c := (sel [1, 1, 0, 1, 4, 4, 1] csP)) ((cstt w0 vt ts h hok k).noX) ?_
  refine T3.seq (s := (sel [1, 1, 0, 1, 4, 4, 1, 0] csP)) (c := (sel [1, 1, 0, 1, 4, 4, 1, 1] csP)) (S := fun a w => (0 ≤ k ∧ k < ts.length) ∧ (NoErr (teamAt ts) k) ∧ (IsW w0 w) ∧ Fr 29 [(0, vt), (13, vt), (14, .int .i64 ts.length), (15, .int .i64 k)] a) ?_ (T3.seq (s := (sel [1, 1, 0, 1, 4, 4, 1, 1, 0] csP)) (c := (sel [1, 1, 0, 1, 4, 4, 1, 1, 1] csP)) (S := fun a w => (0 ≤ k ∧ k < ts.length) ∧ (NoErr (teamAt ts) (k + 1)) ∧ (IsW w0 w) ∧ Fr 29 [(0, vt), (13, vt), (14, .int .i64 ts.length), (15, .int .i64 k)] a) (T3.noX (T3.mono (R' := fun a w => (0 ≤ k ∧ k < ts.length) ∧ (NoErr (teamAt ts) k) ∧ (IsW w0 w) ∧ Fr 29 [(0, vt), (13, vt), (14, .int .i64 ts.length), (15, .int .i64 k)] a) (S' := fun a w => (0 ≤ k ∧ k < ts.length) ∧ (NoErr (teamAt ts) (k + 1)) ∧ (IsW w0 w) ∧ Fr 29 [(0, vt), (13, vt), (14, .int .i64 ts.length), (15, .int .i64 k)] a) (csb w0 vt ts h k hok) (fun a w ⟨hk, hp, hI⟩ => ⟨⟨hk, hp⟩, hI⟩) (fun a w ⟨⟨hk, hp⟩, hI⟩ => ⟨hk, hp, hI⟩) (fun _ _ q => q) (fun _ _ q => q))) ?_)
  · refine T3.cond (o := .tmp 16) (x := .skip) (y := .exit 1) (fun a w => k < ts.length ∧ cstI w0 vt ts h hok k a w) (fun a w => ¬ k < ts.length ∧ cstI w0 vt ts h hok k a w) ?_ (T3.skip ?_) (T3.exit ?_)
    · rintro a w ⟨q, hF, hq, hI⟩
      have he := hF.eval 16 (by decide) (v := .bool q) (by simp)
      cases q
      · exact .inr ⟨he, (fun h => by have := hq.2 h; cases this), hI⟩
      · exact .inl ⟨he, hq.1 rfl, hI⟩
    · rintro a w ⟨hlt, hk, hI⟩
      exact ⟨⟨hk.1, hlt⟩, hI⟩
    · rintro a w ⟨hlt, hk, hI⟩
      obtain rfl : k = ts.length := by omega
      exact ⟨hI.1, hI.2.1, hI.2.2.sub (by simp)⟩
  · intro a w hx
    have hk := hx.1
    exact (((cstn w0 vt ts h hok k).noX).post (fun a w q => ⟨ng_ - 1, by omega, k + 1, by omega, q⟩)) a w hx
set_option maxRecDepth 100000 in
set_option maxHeartbeats 1000000 in
theorem cs13 (w0 : World) (vt : Value) (ts : List ByteArray) (h : SdH w0 vt ts) : T3 Try.prog (fun a w => (NoErr (teamAt ts) ts.length) ∧ (IsW w0 w) ∧ Fr 29 [] a) (sel [1, 1, 1, 0] csP) (fun a w => (NoErr (teamAt ts) ts.length) ∧ (IsW w0 w) ∧ Fr 29 [(2, .int .i64 0)] a) No 9 (fun a w => IsW w0 w ∧ Fr 29 [(2, .int .i64 (seedsE ts))] a) := by
  refine T3.leaf ?_
  rintro Q JS JX JT K hS hK hX hE hT hR a w ⟨hpre, hW, ⟨fr, rfl, _⟩⟩
  have hpp := Lib.hid hpre
  clear hpre
  rw [fr_csP]
  conv => arg 2; whnf
  go_wp2_with fail
  refine Met.intro (hS _ _ ?_)
  exact ⟨hpp.out, hW, Fr.of _ rfl ⟨rfl, trivial⟩⟩

set_option maxRecDepth 100000 in
set_option maxHeartbeats 1000000 in
theorem csall (w0 : World) (vt : Value) (ts : List ByteArray) (h : SdH w0 vt ts) : T3 Try.prog (fun a w => (IsW w0 w) ∧ Fr 29 [(0, vt)] a) csP No No 9 (fun a w => IsW w0 w ∧ Fr 29 [(2, .int .i64 (seedsE ts))] a) := by
  refine T3.seq (s := (sel [0] csP)) (c := (sel [1] csP)) (cs0 w0 vt ts h) ?_
  refine T3.seq (s := (sel [1, 0] csP)) (c := (sel [1, 1] csP)) (S := fun a w => SOk ts ∧ (IsW w0 w ∧ Fr 29 [(0, vt)] a)) ?_ (T3.pure fun hok => ?_)
  · refine T3.block (id' := 0) (c := (sel [1, 0, 4] csP)) (by decide) ?_
    refine T3.seq (s := (sel [1, 0, 4, 0] csP)) (c := (sel [1, 0, 4, 1] csP)) (cs1 w0 vt ts h) (T3.iff (M := fun q w => (q = decide ((ts.length : Int) < 2)) ∧ IsW w0 w) (by decide) ?_ ?_)
    · refine T3.seq (s := (sel [1, 0, 4, 1, 2, 0] csP)) (c := .ret) (t3_seqx (p := ts.length < 2) (cs2 w0 vt ts h) ?_) (T3.ret ?_)
      · rintro a w ⟨hF, hq, hW⟩
        exact ⟨by have := hq.symm; simp only [decide_eq_true_eq] at this; omega, hW, hF.tail⟩
      · rintro a w ⟨hp, hW, hF⟩
        exact ⟨hW, by rw [se_none hp]; exact hF⟩
    · refine T3.pre (R := fun a w => (¬ ts.length < 2) ∧ (IsW w0 w ∧ Fr 29 [(0, vt)] a)) (T3.pure fun hne => ?_) ?_
      · refine T3.seq (s := (sel [1, 0, 4, 1, 3, 0] csP)) (c := (sel [1, 0, 4, 1, 3, 1] csP)) (cs3 w0 vt ts h) (T3.iff (M := fun q w => (q = decide ((20 : Int) < ts.length)) ∧ IsW w0 w) (by decide) ?_ (T3.skip ?_))
        · refine T3.seq (s := (sel [1, 0, 4, 1, 3, 1, 2, 0] csP)) (c := .ret) (t3_seqx (p := 20 < ts.length) (cs4 w0 vt ts h) ?_) (T3.ret ?_)
          · rintro a w ⟨hF, hq, hW⟩
            exact ⟨by have := hq.symm; simp only [decide_eq_true_eq] at this; omega, hW, hF.tail⟩
          · rintro a w ⟨hp, hW, hF⟩
            exact ⟨hW, by rw [se_large hne hp]; exact hF⟩
        · rintro a w ⟨hF, hq, hW⟩
          exact ⟨⟨hne, by have := hq.symm; simp only [decide_eq_false_iff_not] at this; omega⟩, hW, hF.tail⟩
      · rintro a w ⟨hF, hq, hW⟩
        exact ⟨by have := hq.symm; simp only [decide_eq_false_iff_not] at this; omega, hW, hF.tail⟩
  refine T3.seq (s := (sel [1, 1, 0] csP)) (c := (sel [1, 1, 1] csP)) (T3.seq (s := (sel [1, 1, 0, 0] csP)) (c := (sel [1, 1, 0, 1] csP)) (cs5 w0 vt ts h) (cstloop w0 vt ts h hok)) ?_
  refine T3.seq (s := (sel [1, 1, 1, 0] csP)) (c := .ret) (cs13 w0 vt ts h) (T3.ret ?_)
  rintro a w ⟨hp, hW, hF⟩
  exact ⟨hW, by rw [se_ok hok hp]; exact hF⟩

set_option maxRecDepth 100000 in
set_option maxHeartbeats 1000000 in
theorem seeds_prog (w0 : World) (vt : Value) (ts : List ByteArray) (h : SdH w0 vt ts) : Calls Try.prog 32 #[vt] w0 fun e w' => e = .returned (.int .i64 (seedsE ts)) ∧ w0 = w' := by
  have hall := csall w0 vt ts h
  go_enter Try.func32, Try.ntmps32
  refine T3.done (s := csP) hall ⟨rfl, Fr.of _ rfl ⟨rfl, trivial⟩⟩ ?_
  rintro a w ⟨hw, fr, rfl, q2, _⟩
  obtain rfl : w = w0 := hw
  rw [fr_csP, show fr 2 = _ from q2]
  go_ret
  exact ⟨rfl, rfl⟩

noncomputable def csR : Code := (Try.f33.body).getD .skip
set_option maxRecDepth 100000 in
theorem fr_csR (f : Nat → Value) : frame 29 f = ⟨#[f 0, f 1, f 2, f 3, f 4, f 5, f 6, f 7, f 8, f 9, f 10, f 11, f 12, f 13, f 14, f 15, f 16, f 17, f 18, f 19, f 20, f 21, f 22, f 23, f 24, f 25, f 26, f 27, f 28], []⟩ := by rfl
set_option maxRecDepth 100000 in
set_option maxHeartbeats 1000000 in
theorem ct0 (w0 : World) (vt : Value) (ts : List ByteArray) (h : SdH w0 vt ts) : T3 Try.prog (fun a w => (IsW w0 w) ∧ Fr 29 [(0, vt)] a) (sel [0] csR) (fun a w => (IsW w0 w) ∧ Fr 29 [(0, vt)] a) No 9 (fun a w => IsW w0 w ∧ Fr 29 [(2, .int .i64 (seedsE ts))] a) := by
  refine T3.leaf ?_
  rintro Q JS JX JT K hS hK hX hE hT hR a w ⟨hW, ⟨fr, rfl, q0, _⟩⟩
  obtain ⟨p1, c1, hv1⟩ := h.t.shape
  subst hv1
  rw [fr_csR, show fr 0 = _ from q0]
  clear q0
  conv => arg 2; whnf
  go_wp2_with fail
  refine Met.intro (hS _ _ ?_)
  exact ⟨hW, Fr.of _ rfl ⟨rfl, trivial⟩⟩

set_option maxRecDepth 100000 in
set_option maxHeartbeats 1000000 in
theorem ct1 (w0 : World) (vt : Value) (ts : List ByteArray) (h : SdH w0 vt ts) : T3 Try.prog (fun a w => (IsW w0 w) ∧ Fr 29 [(0, vt)] a) (sel [1, 0, 4, 0] csR) (fun a w => ∃ q, Fr 29 ((5, .bool q) :: [(0, vt)]) a ∧ ((q = decide ((ts.length : Int) < 2)) ∧ IsW w0 w)) No 9 (fun a w => IsW w0 w ∧ Fr 29 [(2, .int .i64 (seedsE ts))] a) := by
  refine T3.leaf ?_
  rintro Q JS JX JT K hS hK hX hE hT hR a w ⟨hW, ⟨fr, rfl, q0, _⟩⟩
  obtain ⟨p1, c1, hv1⟩ := h.t.shape
  subst hv1
  rw [fr_csR, show fr 0 = _ from q0]
  clear q0
  conv => arg 2; whnf
  go_wp2_with fail
  refine Met.intro (hS _ _ ?_)
  exact ⟨_, Fr.of _ rfl ⟨rfl, rfl, trivial⟩, rfl, hW⟩

set_option maxRecDepth 100000 in
set_option maxHeartbeats 1000000 in
theorem ct3 (w0 : World) (vt : Value) (ts : List ByteArray) (h : SdH w0 vt ts) : T3 Try.prog (fun a w => (IsW w0 w) ∧ Fr 29 [(0, vt)] a) (sel [1, 0, 4, 1, 3, 0] csR) (fun a w => ∃ q, Fr 29 ((9, .bool q) :: [(0, vt)]) a ∧ ((q = decide ((20 : Int) < ts.length)) ∧ IsW w0 w)) No 9 (fun a w => IsW w0 w ∧ Fr 29 [(2, .int .i64 (seedsE ts))] a) := by
  refine T3.leaf ?_
  rintro Q JS JX JT K hS hK hX hE hT hR a w ⟨hW, ⟨fr, rfl, q0, _⟩⟩
  obtain ⟨p1, c1, hv1⟩ := h.t.shape
  subst hv1
  rw [fr_csR, show fr 0 = _ from q0]
  clear q0
  conv => arg 2; whnf
  go_wp2_with fail
  refine Met.intro (hS _ _ ?_)
  exact ⟨_, Fr.of _ rfl ⟨rfl, rfl, trivial⟩, rfl, hW⟩

set_option maxRecDepth 100000 in
set_option maxHeartbeats 1000000 in
theorem ct2 (w0 : World) (vt : Value) (ts : List ByteArray) (h : SdH w0 vt ts) : T3 Try.prog (fun a w => (IsW w0 w) ∧ Fr 29 [(0, vt)] a) (sel [1, 0, 4, 1, 2, 0] csR) (fun a w => (IsW w0 w) ∧ Fr 29 [(2, .int .i64 8)] a) No 9 (fun a w => IsW w0 w ∧ Fr 29 [(2, .int .i64 (seedsE ts))] a) := by
  refine T3.leaf ?_
  rintro Q JS JX JT K hS hK hX hE hT hR a w ⟨hW, ⟨fr, rfl, q0, _⟩⟩
  rw [fr_csR, show fr 0 = _ from q0]
  clear q0
  conv => arg 2; whnf
  go_wp2_with fail
  refine Met.intro (hS _ _ ?_)
  exact ⟨hW, Fr.of _ rfl ⟨rfl, trivial⟩⟩

set_option maxRecDepth 100000 in
set_option maxHeartbeats 1000000 in
theorem ct4 (w0 : World) (vt : Value) (ts : List ByteArray) (h : SdH w0 vt ts) : T3 Try.prog (fun a w => (IsW w0 w) ∧ Fr 29 [(0, vt)] a) (sel [1, 0, 4, 1, 3, 1, 2, 0] csR) (fun a w => (IsW w0 w) ∧ Fr 29 [(2, .int .i64 2)] a) No 9 (fun a w => IsW w0 w ∧ Fr 29 [(2, .int .i64 (seedsE ts))] a) := by
  refine T3.leaf ?_
  rintro Q JS JX JT K hS hK hX hE hT hR a w ⟨hW, ⟨fr, rfl, q0, _⟩⟩
  rw [fr_csR, show fr 0 = _ from q0]
  clear q0
  conv => arg 2; whnf
  go_wp2_with fail
  refine Met.intro (hS _ _ ?_)
  exact ⟨hW, Fr.of _ rfl ⟨rfl, trivial⟩⟩

set_option maxRecDepth 100000 in
set_option maxHeartbeats 1000000 in
theorem ct5 (w0 : World) (vt : Value) (ts : List ByteArray) (h : SdH w0 vt ts) : T3 Try.prog (fun a w => (IsW w0 w) ∧ Fr 29 [(0, vt)] a) (sel [1, 1, 0, 0] csR) (fun a w => (0 ≤ (0 : Int) ∧ (0 : Int) ≤ ts.length) ∧ (NoErr (teamAt ts) 0) ∧ (IsW w0 w) ∧ Fr 29 [(0, vt), (13, vt), (14, .int .i64 ts.length), (15, .int .i64 0)] a) No 9 (fun a w => IsW w0 w ∧ Fr 29 [(2, .int .i64 (seedsE ts))] a) := by
  refine T3.leaf ?_
  rintro Q JS JX JT K hS hK hX hE hT hR a w ⟨hW, ⟨fr, rfl, q0, _⟩⟩
  obtain ⟨p1, c1, hv1⟩ := h.t.shape
  subst hv1
  rw [fr_csR, show fr 0 = _ from q0]
  clear q0
  conv => arg 2; whnf
  go_wp2_with fail
  refine Met.intro (hS _ _ ?_)
  exact ⟨⟨by omega, by omega⟩, NoErr.zero _, hW, Fr.of _ rfl ⟨rfl, rfl, rfl, rfl, trivial⟩⟩

set_option maxRecDepth 100000 in
set_option maxHeartbeats 1000000 in
theorem ct7 (w0 : World) (vt : Value) (ts : List ByteArray) (h : SdH w0 vt ts) (k : Int) : T3 Try.prog (fun a w => ((0 ≤ k ∧ k < ts.length) ∧ (NoErr (teamAt ts) k)) ∧ (IsW w0 w) ∧ Fr 29 [(0, vt), (13, vt), (14, .int .i64 ts.length), (15, .int .i64 k)] a) (sel [1, 1, 0, 1, 4, 4, 1, 1, 0, 4, 0] csR) (fun a w => ((0 ≤ k ∧ k < ts.length) ∧ (NoErr (teamAt ts) k)) ∧ (IsW w0 w) ∧ Fr 29 [(0, vt), (3, .int .i64 k), (4, .string (geta ts k)), (13, vt), (14, .int .i64 ts.length), (15, .int .i64 k)] a) No 9 (fun a w => IsW w0 w ∧ Fr 29 [(2, .int .i64 (seedsE ts))] a) := by
  refine T3.leaf ?_
  rintro Q JS JX JT K hS hK hX hE hT hR a w ⟨hpre, hW, ⟨fr, rfl, q0, q13, q14, q15, _⟩⟩
  obtain ⟨hk0, hk1⟩ := hpre.1
  obtain ⟨_, hcs⟩ := h.t.els encSt_length (by decide)
  rcases hcs with ⟨rfl, h0⟩ | ⟨bz, off, cap, rfl, _, hbz, hnc, hcm, hcell⟩
  · omega
  have t0 := hcell k hk0 hk1 0 _ rfl
  rw [Nat.mul_one, Nat.add_zero] at t0
  clear hcell
  obtain rfl : w = w0 := hW
  rw [fr_csR, show fr 0 = _ from q0, show fr 13 = _ from q13, show fr 14 = _ from q14, show fr 15 = _ from q15]
  clear q0 q13 q14 q15
  conv => arg 2; whnf
  go_wp2_with fail
  refine Met.intro (hS _ _ ?_)
  exact ⟨hpre, rfl, Fr.of _ rfl ⟨rfl, rfl, rfl, rfl, rfl, rfl, trivial⟩⟩

set_option maxRecDepth 100000 in
set_option maxHeartbeats 1000000 in
theorem ct8 (w0 : World) (vt : Value) (ts : List ByteArray) (h : SdH w0 vt ts) (k : Int) : T3 Try.prog (fun a w => ((0 ≤ k ∧ k < ts.length) ∧ (NoErr (teamAt ts) k)) ∧ (IsW w0 w) ∧ Fr 29 [(0, vt), (3, .int .i64 k), (4, .string (geta ts k)), (13, vt), (14, .int .i64 ts.length), (15, .int .i64 k)] a) (sel [1, 1, 0, 1, 4, 4, 1, 1, 0, 4, 1, 0, 0] csR) (fun a w => ∃ q, Fr 29 ((22, .bool q) :: [(0, vt), (3, .int .i64 k), (4, .string (geta ts k)), (13, vt), (14, .int .i64 ts.length), (15, .int .i64 k)]) a ∧ ((((0 ≤ k ∧ k < ts.length) ∧ (NoErr (teamAt ts) k)) ∧ q = !keyB (geta ts k)) ∧ IsW w0 w)) No 9 (fun a w => IsW w0 w ∧ Fr 29 [(2, .int .i64 (seedsE ts))] a) := by
  refine T3.leaf ?_
  rintro Q JS JX JT K hS hK hX hE hT hR a w ⟨hpre, hW, ⟨fr, rfl, q0, q3, q4, q13, q14, q15, _⟩⟩
  have HK := Lib.hid (key_ref (geta ts k) w (h.z _ (geta_mem hpre.1.1 hpre.1.2)))
  generalize geta ts k = x at *
  generalize keyB x = q at *
  rw [fr_csR, show fr 0 = _ from q0, show fr 3 = _ from q3, show fr 4 = _ from q4, show fr 13 = _ from q13, show fr 14 = _ from q14, show fr 15 = _ from q15]
  clear q0 q3 q4 q13 q14 q15
  conv => arg 2; whnf
  go_wp2_with fail
  refine HK.out.mono ?_
  rintro e w1 ⟨rfl, rfl⟩
  go_wp2_with fail
  refine Met.intro (hS _ _ ?_)
  exact ⟨_, Fr.of _ rfl ⟨rfl, rfl, rfl, rfl, rfl, rfl, rfl, trivial⟩, ⟨hpre, rfl⟩, hW⟩

set_option maxRecDepth 100000 in
set_option maxHeartbeats 1000000 in
theorem ct9 (w0 : World) (vt : Value) (ts : List ByteArray) (h : SdH w0 vt ts) (k : Int) : T3 Try.prog (fun a w => ((0 ≤ k ∧ k < ts.length) ∧ (NoErr (teamAt ts) k)) ∧ (IsW w0 w) ∧ Fr 29 [(0, vt), (3, .int .i64 k), (4, .string (geta ts k)), (13, vt), (14, .int .i64 ts.length), (15, .int .i64 k)] a) (sel [1, 1, 0, 1, 4, 4, 1, 1, 0, 4, 1, 0, 1, 2, 0] csR) (fun a w => (IsW w0 w) ∧ Fr 29 [(2, .int .i64 5)] a) No 9 (fun a w => IsW w0 w ∧ Fr 29 [(2, .int .i64 (seedsE ts))] a) := by
  refine T3.leaf ?_
  rintro Q JS JX JT K hS hK hX hE hT hR a w ⟨hpre, hW, ⟨fr, rfl, q0, q3, q4, q13, q14, q15, _⟩⟩
  rw [fr_csR, show fr 0 = _ from q0, show fr 3 = _ from q3, show fr 4 = _ from q4, show fr 13 = _ from q13, show fr 14 = _ from q14, show fr 15 = _ from q15]
  clear q0 q3 q4 q13 q14 q15
  conv => arg 2; whnf
  go_wp2_with fail
  refine Met.intro (hS _ _ ?_)
  exact ⟨hW, Fr.of _ rfl ⟨rfl, trivial⟩⟩

set_option maxRecDepth 100000 in
set_option maxHeartbeats 1000000 in
theorem ct10 (w0 : World) (vt : Value) (ts : List ByteArray) (h : SdH w0 vt ts) (k : Int) : T3 Try.prog (fun a w => ((0 ≤ k ∧ k < ts.length) ∧ (NoErr (teamAt ts) k) ∧ keyB (geta ts k) = true) ∧ (IsW w0 w) ∧ Fr 29 [(0, vt), (3, .int .i64 k), (4, .string (geta ts k)), (13, vt), (14, .int .i64 ts.length), (15, .int .i64 k)] a) (sel [1, 1, 0, 1, 4, 4, 1, 1, 0, 4, 1, 1, 0] csR) (fun a w => ∃ q, Fr 29 ((27, .bool q) :: [(0, vt), (3, .int .i64 k), (4, .string (geta ts k)), (13, vt), (14, .int .i64 ts.length), (15, .int .i64 k)]) a ∧ ((((0 ≤ k ∧ k < ts.length) ∧ (NoErr (teamAt ts) k) ∧ keyB (geta ts k) = true) ∧ q = hasTo ts k (geta ts k)) ∧ IsW w0 w)) No 9 (fun a w => IsW w0 w ∧ Fr 29 [(2, .int .i64 (seedsE ts))] a) := by
  refine T3.leaf ?_
  rintro Q JS JX JT K hS hK hX hE hT hR a w ⟨hpre, hW, ⟨fr, rfl, q0, q3, q4, q13, q14, q15, _⟩⟩
  have HP := Lib.hid hpre
  obtain ⟨⟨hk0, hk1⟩, _⟩ := hpre
  obtain ⟨_, hcs⟩ := h.t.els encSt_length (by decide)
  rcases hcs with ⟨rfl, h0⟩ | ⟨bz, off, cap, rfl, _, hbz, hnc, hcm, hcell⟩
  · omega
  have HC := Lib.hid (contains_str _ k.toNat (ts.take k.toNat) (geta ts k) 0 w0 (Row.first encSt_length h.t rfl (by omega)))
  have hbq : (0 : Int) ≤ k ∧ k ≤ ts.length ∧ (ts.length : Int) ≤ cap := by omega
  clear hcell
  obtain rfl : w = w0 := hW
  have HE := Lib.hid (show hasS (ts.take k.toNat) (geta ts k) = hasTo ts k (geta ts k) from rfl)
  rw [HE.out] at HC
  generalize geta ts k = x at *
  generalize hasTo ts k x = q at *
  rw [fr_csR, show fr 0 = _ from q0, show fr 3 = _ from q3, show fr 4 = _ from q4, show fr 13 = _ from q13, show fr 14 = _ from q14, show fr 15 = _ from q15]
  clear q0 q3 q4 q13 q14 q15
  conv => arg 2; whnf
  go_wp2_with fail
  refine HC.out.mono ?_
  rintro e w1 ⟨rfl, rfl⟩
  go_wp2_with fail
  have hpre := HP.out
  refine Met.intro (hS _ _ ?_)
  exact ⟨_, Fr.of _ rfl ⟨rfl, rfl, rfl, rfl, rfl, rfl, rfl, trivial⟩, ⟨hpre, rfl⟩, rfl⟩

set_option maxRecDepth 100000 in
set_option maxHeartbeats 1000000 in
theorem ct11 (w0 : World) (vt : Value) (ts : List ByteArray) (h : SdH w0 vt ts) (k : Int) : T3 Try.prog (fun a w => ((0 ≤ k ∧ k < ts.length) ∧ (NoErr (teamAt ts) k) ∧ keyB (geta ts k) = true) ∧ (IsW w0 w) ∧ Fr 29 [(0, vt), (3, .int .i64 k), (4, .string (geta ts k)), (13, vt), (14, .int .i64 ts.length), (15, .int .i64 k)] a) (sel [1, 1, 0, 1, 4, 4, 1, 1, 0, 4, 1, 1, 1, 2, 0] csR) (fun a w => (IsW w0 w) ∧ Fr 29 [(2, .int .i64 6)] a) No 9 (fun a w => IsW w0 w ∧ Fr 29 [(2, .int .i64 (seedsE ts))] a) := by
  refine T3.leaf ?_
  rintro Q JS JX JT K hS hK hX hE hT hR a w ⟨hpre, hW, ⟨fr, rfl, q0, q3, q4, q13, q14, q15, _⟩⟩
  rw [fr_csR, show fr 0 = _ from q0, show fr 3 = _ from q3, show fr 4 = _ from q4, show fr 13 = _ from q13, show fr 14 = _ from q14, show fr 15 = _ from q15]
  clear q0 q3 q4 q13 q14 q15
  conv => arg 2; whnf
  go_wp2_with fail
  refine Met.intro (hS _ _ ?_)
  exact ⟨hW, Fr.of _ rfl ⟨rfl, trivial⟩⟩

set_option maxRecDepth 100000 in
set_option maxHeartbeats 1000000 in
theorem ctb (w0 : World) (vt : Value) (ts : List ByteArray) (h : SdH w0 vt ts) (k : Int) (hok : SOk ts) : T3 Try.prog (fun a w => ((0 ≤ k ∧ k < ts.length) ∧ (NoErr (teamAt ts) k)) ∧ (IsW w0 w) ∧ Fr 29 [(0, vt), (13, vt), (14, .int .i64 ts.length), (15, .int .i64 k)] a) (sel [1, 1, 0, 1, 4, 4, 1, 1, 0] csR) (fun a w => ((0 ≤ k ∧ k < ts.length) ∧ (NoErr (teamAt ts) (k + 1))) ∧ (IsW w0 w) ∧ Fr 29 [(0, vt), (13, vt), (14, .int .i64 ts.length), (15, .int .i64 k)] a) No 9 (fun a w => IsW w0 w ∧ Fr 29 [(2, .int .i64 (seedsE ts))] a) := by
  refine T3.block (id' := 2) (c := (sel [1, 1, 0, 1, 4, 4, 1, 1, 0, 4] csR)) (by decide) ?_
  refine T3.seq (s := (sel [1, 1, 0, 1, 4, 4, 1, 1, 0, 4, 0] csR)) (c := (sel [1, 1, 0, 1, 4, 4, 1, 1, 0, 4, 1] csR)) (ct7 w0 vt ts h k) ?_
  refine T3.seq (s := (sel [1, 1, 0, 1, 4, 4, 1, 1, 0, 4, 1, 0] csR)) (c := (sel [1, 1, 0, 1, 4, 4, 1, 1, 0, 4, 1, 1] csR)) (S := (fun a w => ((0 ≤ k ∧ k < ts.length) ∧ (NoErr (teamAt ts) k) ∧ keyB (geta ts k) = true) ∧ (IsW w0 w) ∧ Fr 29 [(0, vt), (3, .int .i64 k), (4, .string (geta ts k)), (13, vt), (14, .int .i64 ts.length), (15, .int .i64 k)] a)) ?_ ?_
  · refine T3.test (s := (sel [1, 1, 0, 1, 4, 4, 1, 1, 0, 4, 1, 0, 0] csR)) (x := (sel [1, 1, 0, 1, 4, 4, 1, 1, 0, 4, 1, 0, 1, 2] csR)) (y := .skip) (C := fun q => (((0 ≤ k ∧ k < ts.length) ∧ (NoErr (teamAt ts) k)) ∧ q = !keyB (geta ts k))) (W := fun w => IsW w0 w) (by decide) (ct8 w0 vt ts h k) ?_ (T3.skip ?_)
    · refine T3.seq (s := (sel [1, 1, 0, 1, 4, 4, 1, 1, 0, 4, 1, 0, 1, 2, 0] csR)) (c := .ret) (t3_seqx (p := ((0 ≤ k ∧ k < ts.length) ∧ (NoErr (teamAt ts) k)) ∧ keyB (geta ts k) = false) (ct9 w0 vt ts h k) ?_) (T3.ret ?_)
      · rintro a w ⟨hF, ⟨hp, hq⟩, hW⟩
        exact ⟨⟨hp, by simpa using hq.symm⟩, hp, hW, hF.tail⟩
      · rintro a w ⟨⟨hp, hkb⟩, hW, hF⟩
        have e : teamAt ts k = 5 := by unfold teamAt; rw [if_pos hkb]
        exact ⟨hW, by rw [se_team hok hp.1.1 hp.1.2 hp.2 (by rw [e]; decide), e]; exact hF⟩
    · rintro a w ⟨⟨hp, hq⟩, hW, hF⟩
      exact ⟨⟨hp.1, hp.2, by simpa using hq.symm⟩, hW, hF⟩
  · refine T3.test (s := (sel [1, 1, 0, 1, 4, 4, 1, 1, 0, 4, 1, 1, 0] csR)) (x := (sel [1, 1, 0, 1, 4, 4, 1, 1, 0, 4, 1, 1, 1, 2] csR)) (y := .skip) (C := fun q => (((0 ≤ k ∧ k < ts.length) ∧ (NoErr (teamAt ts) k) ∧ keyB (geta ts k) = true) ∧ q = hasTo ts k (geta ts k))) (W := fun w => IsW w0 w) (by decide) ((ct10 w0 vt ts h k).pre (fun a w q => ⟨⟨q.1.1, q.1.2.1, q.1.2.2⟩, q.2⟩)) ?_ (T3.skip ?_)
    · refine T3.seq (s := (sel [1, 1, 0, 1, 4, 4, 1, 1, 0, 4, 1, 1, 1, 2, 0] csR)) (c := .ret) (t3_seqx (p := ((0 ≤ k ∧ k < ts.length) ∧ (NoErr (teamAt ts) k) ∧ keyB (geta ts k) = true) ∧ hasTo ts k (geta ts k) = true) (ct11 w0 vt ts h k) ?_) (T3.ret ?_)
      · rintro a w ⟨hF, ⟨hp, hq⟩, hW⟩
        exact ⟨⟨hp, hq.symm⟩, hp, hW, hF.tail⟩
      · rintro a w ⟨⟨hp, hh⟩, hW, hF⟩
        have e : teamAt ts k = 6 := by unfold teamAt; rw [if_neg (by rw [hp.2.2]; decide), if_pos hh]
        exact ⟨hW, by rw [se_team hok hp.1.1 hp.1.2 hp.2.1 (by rw [e]; decide), e]; exact hF⟩
    · rintro a w ⟨⟨hp, hq⟩, hW, hF⟩
      refine ⟨⟨hp.1, hp.2.1.step ?_⟩, hW, hF.sub (by simp)⟩
      unfold teamAt
      rw [if_neg (by rw [hp.2.2]; decide), if_neg (by rw [← hq]; decide)]

def cttI (w0 : World) (vt : Value) (ts : List ByteArray) (h : SdH w0 vt ts) (hok : SOk ts) (k : Int) (a : Act) (w : World) : Prop := (0 ≤ k ∧ k ≤ ts.length) ∧ (NoErr (teamAt ts) k) ∧ (IsW w0 w) ∧ Fr 29 [(0, vt), (13, vt), (14, .int .i64 ts.length), (15, .int .i64 k)] a
set_option maxRecDepth 100000 in
set_option maxHeartbeats 1000000 in
theorem cttt (w0 : World) (vt : Value) (ts : List ByteArray) (h : SdH w0 vt ts) (hok : SOk ts) (k : Int) : T3 Try.prog (fun a w => cttI w0 vt ts h hok k a w) (sel [1, 1, 0, 1, 4, 4, 0] csR) (fun a w => ∃ q, Fr 29 ((16, .bool q) :: [(15, .int .i64 k)]) a ∧ ((q = true ↔ k < ts.length) ∧ cttI w0 vt ts h hok k a w)) No 9 (fun a w => IsW w0 w ∧ Fr 29 [(2, .int .i64 (seedsE ts))] a) := by
  refine T3.leaf ?_
  rintro Q JS JX JT K hS hK hX hE hT hR a w ⟨hk, hpre, hW, ⟨fr, rfl, q0, q13, q14, q15, _⟩⟩
  have hl := h.tn
  rw [fr_csR, show fr 0 = _ from q0, show fr 13 = _ from q13, show fr 14 = _ from q14, show fr 15 = _ from q15]
  clear q0 q13 q14 q15
  conv => arg 2; whnf
  by_cases hlt : k < ts.length
  · go_wp2_with fail
    refine Met.intro (hS _ _ ?_)
    exact ⟨true, Fr.of _ rfl ⟨rfl, rfl, trivial⟩, ⟨fun _ => hlt, fun _ => rfl⟩, hk, hpre, hW, Fr.of _ rfl ⟨rfl, rfl, rfl, rfl, trivial⟩⟩
  · have hpb : decide (k < (ts.length : Int)) = false := by simp; omega
    go_wp2_with fail
    refine Met.intro (hS _ _ ?_)
    exact ⟨false, Fr.of _ rfl ⟨rfl, rfl, trivial⟩, ⟨(fun h => by cases h), fun h => absurd h (by omega)⟩, hk, hpre, hW, Fr.of _ rfl ⟨rfl, rfl, rfl, rfl, trivial⟩⟩

set_option maxRecDepth 100000 in
set_option maxHeartbeats 1000000 in
theorem cttn (w0 : World) (vt : Value) (ts : List ByteArray) (h : SdH w0 vt ts) (hok : SOk ts) (k : Int) : T3 Try.prog (fun a w => (0 ≤ k ∧ k < ts.length) ∧ (NoErr (teamAt ts) (k + 1)) ∧ (IsW w0 w) ∧ Fr 29 [(0, vt), (13, vt), (14, .int .i64 ts.length), (15, .int .i64 k)] a) (sel [1, 1, 0, 1, 4, 4, 1, 1, 1] csR) (fun a w => cttI w0 vt ts h hok (k + 1) a w) No 9 (fun a w => IsW w0 w ∧ Fr 29 [(2, .int .i64 (seedsE ts))] a) := by
  refine T3.leaf ?_
  rintro Q JS JX JT K hS hK hX hE hT hR a w ⟨hk, hpre, hW, ⟨fr, rfl, q0, q13, q14, q15, _⟩⟩
  obtain ⟨hk0, hk1⟩ := hk
  have hl := h.tn
  rw [fr_csR, show fr 0 = _ from q0, show fr 13 = _ from q13, show fr 14 = _ from q14, show fr 15 = _ from q15]
  clear q0 q13 q14 q15
  conv => arg 2; whnf
  go_wp2_with fail
  refine Met.intro (hS _ _ ?_)
  exact ⟨⟨by omega, by omega⟩, hpre, hW, Fr.of _ rfl ⟨rfl, rfl, rfl, rfl, trivial⟩⟩

set_option maxRecDepth 100000 in
set_option maxHeartbeats 1000000 in
theorem cttloop (w0 : World) (vt : Value) (ts : List ByteArray) (h : SdH w0 vt ts) (hok : SOk ts) : T3 Try.prog (fun a w => cttI w0 vt ts h hok 0 a w) (sel [1, 1, 0, 1] csR) (fun a w => (NoErr (teamAt ts) ts.length) ∧ (IsW w0 w) ∧ Fr 29 [] a) No 9 (fun a w => IsW w0 w ∧ Fr 29 [(2, .int .i64 (seedsE ts))] a) := by
  refine T3.loop (c := (sel [1, 1, 0, 1, 4, 4] csR)) (fun ng_ a w => ∃ k : Int, (ng_ : Int) = ts.length - k ∧ cttI w0 vt ts h hok k a w) (fun a w h => ⟨(ts.length : Int).toNat, 0, by have := h.1.2; omega, h⟩) (fun ng_ => T3.ex fun k => T3.pure fun hng_ => ?_)
  refine T3.seq (s := (sel [1, 1, 0, 1, 4, 4, 0] csR)) (c := (sel [1, 1, 0, 1, 4, 4, 1] csR)) ((cttt w0 vt ts h hok k).noX) ?_
  refine T3.seq (s := (sel [1, 1, 0, 1, 4, 4, 1, 0] csR)) (c := (sel [1, 1, 0, 1, 4, 4, 1, 1] csR)) (S := fun a w => (0 ≤ k ∧ k < ts.length) ∧ (NoErr (teamAt ts) k) ∧ (IsW w0 w) ∧ Fr 29 [(0, vt), (13, vt), (14, .int .i64 ts.length), (15, .int .i64 k)] a) ?_ (T3.seq (s := (sel [1, 1, 0, 1, 4, 4, 1, 1, 0] csR)) (c := (sel [1, 1, 0, 1, 4, 4, 1, 1, 1] csR)) (S := fun a w => (0 ≤ k ∧ k < ts.length) ∧ (NoErr (teamAt ts) (k + 1)) ∧ (IsW w0 w) ∧ Fr 29 [(0, vt), (13, vt), (14, .int .i64 ts.length), (15, .int .i64 k)] a) (T3.noX (T3.mono (R' := fun a w => (0 ≤ k ∧ k < ts.length) ∧ (NoErr (teamAt ts) k) ∧ (IsW w0 w) ∧ Fr 29 [(0, vt), (13, vt), (14, .int .i64 ts.length), (15, .int .i64 k)] a) (S' := fun a w => (0 ≤ k ∧ k < ts.length) ∧ (NoErr (teamAt ts) (k + 1)) ∧ (IsW w0 w) ∧ Fr 29 [(0, vt), (13, vt), (14, .int .i64 ts.length), (15, .int .i64 k)] a) (ctb w0 vt ts h k hok) (fun a w ⟨hk, hp, hI⟩ => ⟨⟨hk, hp⟩, hI⟩) (fun a w ⟨⟨hk, hp⟩, hI⟩ => ⟨hk, hp, hI⟩) (fun _ _ q => q) (fun _ _ q => q))) ?_)
  · refine T3.cond (o := .tmp 16) (x := .skip) (y := .exit 1) (fun a w => k < ts.length ∧ cttI w0 vt ts h hok k a w) (fun a w => ¬ k < ts.length ∧ cttI w0 vt ts h hok k a w) ?_ (T3.skip ?_) (T3.exit ?_)
    · rintro a w ⟨q, hF, hq, hI⟩
      have he := hF.eval 16 (by decide) (v := .bool q) (by simp)
      cases q
      · exact .inr ⟨he, (fun h => by have := hq.2 h; cases this), hI⟩
      · exact .inl ⟨he, hq.1 rfl, hI⟩
    · rintro a w ⟨hlt, hk, hI⟩
      exact ⟨⟨hk.1, hlt⟩, hI⟩
    · rintro a w ⟨hlt, hk, hI⟩
      obtain rfl : k = ts.length := by omega
      exact ⟨hI.1, hI.2.1, hI.2.2.sub (by simp)⟩
  · intro a w hx
    have hk := hx.1
    exact (((cttn w0 vt ts h hok k).noX).post (fun a w q => ⟨ng_ - 1, by omega, k + 1, by omega, q⟩)) a w hx
set_option maxRecDepth 100000 in
set_option maxHeartbeats 1000000 in
theorem ct13 (w0 : World) (vt : Value) (ts : List ByteArray) (h : SdH w0 vt ts) : T3 Try.prog (fun a w => (NoErr (teamAt ts) ts.length) ∧ (IsW w0 w) ∧ Fr 29 [] a) (sel [1, 1, 1, 0] csR) (fun a w => (NoErr (teamAt ts) ts.length) ∧ (IsW w0 w) ∧ Fr 29 [(2, .int .i64 0)] a) No 9 (fun a w => IsW w0 w ∧ Fr 29 [(2, .int .i64 (seedsE ts))] a) := by
  refine T3.leaf ?_
  rintro Q JS JX JT K hS hK hX hE hT hR a w ⟨hpre, hW, ⟨fr, rfl, _⟩⟩
  have hpp := Lib.hid hpre
  clear hpre
  rw [fr_csR]
  conv => arg 2; whnf
  go_wp2_with fail
  refine Met.intro (hS _ _ ?_)
  exact ⟨hpp.out, hW, Fr.of _ rfl ⟨rfl, trivial⟩⟩

set_option maxRecDepth 100000 in
set_option maxHeartbeats 1000000 in
theorem ctall (w0 : World) (vt : Value) (ts : List ByteArray) (h : SdH w0 vt ts) : T3 Try.prog (fun a w => (IsW w0 w) ∧ Fr 29 [(0, vt)] a) csR No No 9 (fun a w => IsW w0 w ∧ Fr 29 [(2, .int .i64 (seedsE ts))] a) := by
  refine T3.seq (s := (sel [0] csR)) (c := (sel [1] csR)) (ct0 w0 vt ts h) ?_
  refine T3.seq (s := (sel [1, 0] csR)) (c := (sel [1, 1] csR)) (S := fun a w => SOk ts ∧ (IsW w0 w ∧ Fr 29 [(0, vt)] a)) ?_ (T3.pure fun hok => ?_)
  · refine T3.block (id' := 0) (c := (sel [1, 0, 4] csR)) (by decide) ?_
    refine T3.seq (s := (sel [1, 0, 4, 0] csR)) (c := (sel [1, 0, 4, 1] csR)) (ct1 w0 vt ts h) (T3.iff (M := fun q w => (q = decide ((ts.length : Int) < 2)) ∧ IsW w0 w) (by decide) ?_ ?_)
    · refine T3.seq (s := (sel [1, 0, 4, 1, 2, 0] csR)) (c := .ret) (t3_seqx (p := ts.length < 2) (ct2 w0 vt ts h) ?_) (T3.ret ?_)
      · rintro a w ⟨hF, hq, hW⟩
        exact ⟨by have := hq.symm; simp only [decide_eq_true_eq] at this; omega, hW, hF.tail⟩
      · rintro a w ⟨hp, hW, hF⟩
        exact ⟨hW, by rw [se_none hp]; exact hF⟩
    · refine T3.pre (R := fun a w => (¬ ts.length < 2) ∧ (IsW w0 w ∧ Fr 29 [(0, vt)] a)) (T3.pure fun hne => ?_) ?_
      · refine T3.seq (s := (sel [1, 0, 4, 1, 3, 0] csR)) (c := (sel [1, 0, 4, 1, 3, 1] csR)) (ct3 w0 vt ts h) (T3.iff (M := fun q w => (q = decide ((20 : Int) < ts.length)) ∧ IsW w0 w) (by decide) ?_ (T3.skip ?_))
        · refine T3.seq (s := (sel [1, 0, 4, 1, 3, 1, 2, 0] csR)) (c := .ret) (t3_seqx (p := 20 < ts.length) (ct4 w0 vt ts h) ?_) (T3.ret ?_)
          · rintro a w ⟨hF, hq, hW⟩
            exact ⟨by have := hq.symm; simp only [decide_eq_true_eq] at this; omega, hW, hF.tail⟩
          · rintro a w ⟨hp, hW, hF⟩
            exact ⟨hW, by rw [se_large hne hp]; exact hF⟩
        · rintro a w ⟨hF, hq, hW⟩
          exact ⟨⟨hne, by have := hq.symm; simp only [decide_eq_false_iff_not] at this; omega⟩, hW, hF.tail⟩
      · rintro a w ⟨hF, hq, hW⟩
        exact ⟨by have := hq.symm; simp only [decide_eq_false_iff_not] at this; omega, hW, hF.tail⟩
  refine T3.seq (s := (sel [1, 1, 0] csR)) (c := (sel [1, 1, 1] csR)) (T3.seq (s := (sel [1, 1, 0, 0] csR)) (c := (sel [1, 1, 0, 1] csR)) (ct5 w0 vt ts h) (cttloop w0 vt ts h hok)) ?_
  refine T3.seq (s := (sel [1, 1, 1, 0] csR)) (c := .ret) (ct13 w0 vt ts h) (T3.ret ?_)
  rintro a w ⟨hp, hW, hF⟩
  exact ⟨hW, by rw [se_ok hok hp]; exact hF⟩

set_option maxRecDepth 100000 in
set_option maxHeartbeats 1000000 in
theorem seeds_ref (w0 : World) (vt : Value) (ts : List ByteArray) (h : SdH w0 vt ts) : Calls Try.prog 33 #[vt] w0 fun e w' => e = .returned (.int .i64 (seedsE ts)) ∧ w0 = w' := by
  have hall := ctall w0 vt ts h
  go_enter Try.func33, Try.ntmps33
  refine T3.done (s := csR) hall ⟨rfl, Fr.of _ rfl ⟨rfl, trivial⟩⟩ ?_
  rintro a w ⟨hw, fr, rfl, q2, _⟩
  obtain rfl : w = w0 := hw
  rw [fr_csR, show fr 2 = _ from q2]
  go_ret
  exact ⟨rfl, rfl⟩

end Go.Proofs.Ytkdimgghljklmaa
/-
  The list of places of a bracket: the program's and the reference's. Condition: at most 64 seeds.
-/
set_option linter.unusedVariables false
namespace Go.Proofs.Ytkdimgghljklmaa
open Go.RowKit Go.Bw

theorem el_int : Elem Try.prog 22 3 (.int .i64 0) 1 8 := ⟨by kernel_rfl, by kernel_rfl, by kernel_rfl, by decide, by decide⟩

def nextL (n : Int) (l : List Int) : List Int := l.flatMap fun p => [p, 2 * n + 1 - p]
def brk (many : Int) : Nat → List Int → List Int
  | 0, l => l
  | f + 1, l => if (l.length : Int) < many then brk many f (nextL l.length l) else l
def bracketL (many : Int) : List Int := brk many 6 [1]
/-- The list as it stands with f rounds left at most. -/
def BrkIs (many : Int) (f : Nat) (l : List Int) : Prop := brk many f l = bracketL many ∧ l.length * 2 ^ f = 64 ∧ ∀ p ∈ l, 1 ≤ p ∧ p ≤ l.length

theorem nextL_length (n : Int) (l : List Int) : (nextL n l).length = 2 * l.length := by
  unfold nextL
  induction l with
  | nil => rfl
  | cons x l ih => simp [List.flatMap_cons, ih]; omega

theorem nextL_snoc (n : Int) (l : List Int) (p : Int) : nextL n (l ++ [p]) = nextL n l ++ [p, 2 * n + 1 - p] := by simp [nextL]

theorem BrkIs.start (many : Int) : BrkIs many 6 [1] := ⟨rfl, by decide, by simp⟩

theorem BrkIs.le {many : Int} {f : Nat} {l : List Int} (h : BrkIs many f l) : 1 ≤ l.length ∧ l.length ≤ 64 := by
  obtain ⟨_, h, _⟩ := h
  have h2 : 1 ≤ 2 ^ f := Nat.one_le_two_pow
  constructor
  · rcases Nat.eq_zero_or_pos l.length with h0 | h0
    · rw [h0] at h; omega
    · exact h0
  · exact h ▸ Nat.le_mul_of_pos_right _ h2

theorem BrkIs.step {many : Int} {f : Nat} {l : List Int} (h : BrkIs many f l) (hm : many ≤ 64) (hlt : (l.length : Int) < many) :
    ∃ f', f = f' + 1 ∧ BrkIs many f' (nextL l.length l) := by
  cases f with
  | zero => obtain ⟨_, h2, _⟩ := h; omega
  | succ f =>
    refine ⟨f, rfl, ?_, ?_, ?_⟩
    · have := h.1
      rw [brk, if_pos hlt] at this
      exact this
    · rw [nextL_length, ← h.2.1, Nat.pow_succ, Nat.mul_comm 2 l.length, Nat.mul_assoc, Nat.mul_comm 2 (2 ^ f)]
    · intro p hp
      rw [nextL_length]
      unfold nextL at hp
      obtain ⟨q, hq, hp⟩ := List.mem_flatMap.1 hp
      have := h.2.2 q hq
      simp at hp
      rcases hp with rfl | rfl <;> constructor <;> push_cast <;> omega

theorem BrkIs.done {many : Int} {f : Nat} {l : List Int} (h : BrkIs many f l) (hlt : many ≤ (l.length : Int)) : l = bracketL many := by
  have := h.1
  cases f with
  | zero => exact this
  | succ f => rw [brk, if_neg (by omega)] at this; exact this

theorem geti_mem {l : List Int} {i : Int} (h0 : 0 ≤ i) (h1 : i < l.length) : geti l i ∈ l := by
  unfold geti
  rw [List.getElem?_eq_getElem (by omega)]
  simp

/-- take, at an Int. -/
def takei (l : List Int) (i : Int) : List Int := l.take i.toNat
theorem takei_succ (l : List Int) (i : Int) (h0 : 0 ≤ i) (h1 : i < l.length) : takei l (i + 1) = takei l i ++ [geti l i] := by
  unfold takei geti
  rw [show (i + 1).toNat = i.toNat + 1 by omega, List.take_succ_eq_append_getElem (by omega), List.getElem?_eq_getElem (by omega)]
  rfl

theorem takei_all (l : List Int) (i : Int) (h : (l.length : Int) ≤ i) : takei l i = l := by
  unfold takei
  exact List.take_of_length_le (by omega)

set_option maxRecDepth 100000 in
set_option maxHeartbeats 1000000 in
theorem bracket_any (many : Int) (w : World) (hm : many ≤ 64) :
    Calls Try.prog 55 #[.int .i64 many] w fun e w' => ∃ g cap, e = .returned (.slice (some ⟨g, 0, none⟩) (bracketL many).length cap) ∧
      w'.ownsRow w.heap.size 3 1 (.slice (some ⟨g, 0, none⟩) (bracketL many).length cap) (bracketL many).length ((bracketL many).map (.int .i64)) ∧ Below w.heap.size w w' := by
  have hE := el_int
  go_enter Try.func55, Try.ntmps55
  go_wp2
  go_loopw [3] (fun v wr => ∃ (l : List Int) (f g cap : Nat), v = .slice (some ⟨g, 0, none⟩) l.length cap ∧ BrkIs many f l ∧
      wr.ownsRow w.heap.size 3 1 (.slice (some ⟨g, 0, none⟩) l.length cap) l.length (l.map (.int .i64)) ∧ Below w.heap.size w wr) (fun v _ => 64 - lenOf v)
  case atStart => exact ⟨[1], 6, _, _, rfl, BrkIs.start many, owns_lit w _ _ _ 1 (by omega) rfl (Nat.le_refl _), (Below.refl _ _).alloc (Nat.le_refl _) _⟩
  case round =>
    obtain ⟨l, f, g, cap, rfl, hbr, hown, hbel⟩ := hrel
    obtain ⟨hl1, hl64⟩ := hbr.le
    by_cases hlt : (l.length : Int) < many
    · obtain ⟨f', hf, hbr'⟩ := hbr.step hm hlt
      obtain ⟨wo, hwo⟩ : ∃ wo, wo = wr := ⟨_, rfl⟩
      subst hwo
      have hcell := ints_of_owns hown
      have hmem := hbr.2.2
      have hg := (hown.lt g rfl).2
      clear hf
      go_wp2
      go_loopw [4, 14] (fun v i wr => ∃ j : Int, 0 ≤ j ∧ j ≤ l.length ∧ i = .int .i64 j ∧ wr.ownsRow wo.heap.size 3 1 v (nextL l.length (takei l j)).length ((nextL l.length (takei l j)).map (.int .i64)) ∧ Below wo.heap.size wo wr) (fun _ i _ => l.length - (intOf i).toNat)
      case atStart => exact ⟨0, by omega, by omega, rfl, World.ownsRow_nil _ _ _ _, Below.refl _ _⟩
      case round =>
        obtain ⟨j, hj0, hj1, rfl, hown2, hbel2⟩ := hrel
        by_cases hjl : j < l.length
        · have hc : wr.cell? ⟨g, j.toNat, none⟩ = some (.int .i64 (geti l j)) := (hbel2.cell (p := ⟨g, j.toNat, none⟩) hg).trans (hcell j hj0 hjl)
          obtain ⟨hp1, hp2⟩ := hmem _ (geti_mem hj0 hjl)
          have hlen2 : (nextL l.length (takei l j)).length ≤ 128 := by rw [nextL_length]; unfold takei; simp; omega
          have hR : Hid _ := takei_succ l j hj0 hjl
          have hsz := hbel2.size
          clear hcell hmem
          go_wp2_with (at_builtin; go_loud (refine app_law rfl _ _ _ rfl hE (hown2.alloc _) rfl [.int .i64 (geti l j), .int .i64 (2 * l.length + 1 - geti l j)] rfl rfl (cells_new _ #[_, _] _) (by simp [Value.oneCell']) (by omega) (by simp; omega) ?_); intro v' w1 hown3 hgr)
          have hb3 := below_app hbel2 hown2 hgr (Nat.le_refl _) hsz
          have hn3 : (nextL l.length (takei l (j + 1))) = nextL l.length (takei l j) ++ [geti l j, 2 * l.length + 1 - geti l j] := by rw [hR.out, nextL_snoc]
          go_roundw
          case rel => exact ⟨j + 1, by omega, by omega, rfl, by rw [hn3]; simpa using hown3, hb3⟩
          case measure => simp [intOf]; omega
        · have hall := takei_all l j (by omega)
          rw [hall] at hown2
          obtain ⟨g2, cap2, hv2, hg2, _, _, _⟩ := owns_shape hown2 (by rw [nextL_length]; omega)
          subst hv2
          have hown4 := owns_mono hown2 hbel.size
          have hb4 := hbel.trans (hbel2.mono hbel.size)
          clear hown2 hall hcell hmem
          go_wp2
          go_roundw
          case rel => exact ⟨_, f', _, _, rfl, hbr', hown4, hb4⟩
          case measure => simp [lenOf]; rw [nextL_length]; omega
    · go_wp2
      go_ret
      have hd := hbr.done (by omega)
      subst hd
      exact ⟨_, _, rfl, hown, hbel⟩
set_option maxRecDepth 100000 in
set_option maxHeartbeats 1000000 in
theorem places_any (many : Int) (w : World) (hm : many ≤ 64) :
    Calls Try.prog 58 #[.int .i64 many] w fun e w' => ∃ g cap, e = .returned (.slice (some ⟨g, 0, none⟩) (bracketL many).length cap) ∧
      w'.ownsRow w.heap.size 3 1 (.slice (some ⟨g, 0, none⟩) (bracketL many).length cap) (bracketL many).length ((bracketL many).map (.int .i64)) ∧ Below w.heap.size w w' := by
  have hE := el_int
  go_enter Try.func58, Try.ntmps58
  go_wp2
  go_loopw [3] (fun v wr => ∃ (l : List Int) (f g cap : Nat), v = .slice (some ⟨g, 0, none⟩) l.length cap ∧ BrkIs many f l ∧
      wr.ownsRow w.heap.size 3 1 (.slice (some ⟨g, 0, none⟩) l.length cap) l.length (l.map (.int .i64)) ∧ Below w.heap.size w wr) (fun v _ => 64 - lenOf v)
  case atStart => exact ⟨[1], 6, _, _, rfl, BrkIs.start many, owns_lit w _ _ _ 1 (by omega) rfl (Nat.le_refl _), (Below.refl _ _).alloc (Nat.le_refl _) _⟩
  case round =>
    obtain ⟨l, f, g, cap, rfl, hbr, hown, hbel⟩ := hrel
    obtain ⟨hl1, hl64⟩ := hbr.le
    by_cases hlt : (l.length : Int) < many
    · obtain ⟨f', hf, hbr'⟩ := hbr.step hm hlt
      obtain ⟨wo, hwo⟩ : ∃ wo, wo = wr := ⟨_, rfl⟩
      subst hwo
      have hcell := ints_of_owns hown
      have hmem := hbr.2.2
      have hg := (hown.lt g rfl).2
      clear hf
      go_wp2
      go_loopw [5, 18] (fun v i wr => ∃ j : Int, 0 ≤ j ∧ j ≤ l.length ∧ i = .int .i64 j ∧ wr.ownsRow wo.heap.size 3 1 v (nextL l.length (takei l j)).length ((nextL l.length (takei l j)).map (.int .i64)) ∧ Below wo.heap.size wo wr) (fun _ i _ => l.length - (intOf i).toNat)
      case atStart => exact ⟨0, by omega, by omega, rfl, World.ownsRow_nil _ _ _ _, Below.refl _ _⟩
      case round =>
        obtain ⟨j, hj0, hj1, rfl, hown2, hbel2⟩ := hrel
        by_cases hjl : j < l.length
        · have hc : wr.cell? ⟨g, j.toNat, none⟩ = some (.int .i64 (geti l j)) := (hbel2.cell (p := ⟨g, j.toNat, none⟩) hg).trans (hcell j hj0 hjl)
          obtain ⟨hp1, hp2⟩ := hmem _ (geti_mem hj0 hjl)
          have hlen2 : (nextL l.length (takei l j)).length ≤ 128 := by rw [nextL_length]; unfold takei; simp; omega
          have hR : Hid _ := takei_succ l j hj0 hjl
          have hsz := hbel2.size
          clear hcell hmem
          go_wp2_with (at_builtin; go_loud (refine app_law rfl _ _ _ rfl hE (hown2.alloc _) rfl [.int .i64 (geti l j), .int .i64 (2 * l.length + 1 - geti l j)] rfl rfl (cells_new _ #[_, _] _) (by simp [Value.oneCell']) (by omega) (by simp; omega) ?_); intro v' w1 hown3 hgr)
          have hb3 := below_app hbel2 hown2 hgr (Nat.le_refl _) hsz
          have hn3 : (nextL l.length (takei l (j + 1))) = nextL l.length (takei l j) ++ [geti l j, 2 * l.length + 1 - geti l j] := by rw [hR.out, nextL_snoc]
          go_roundw
          case rel => exact ⟨j + 1, by omega, by omega, rfl, by rw [hn3]; simpa using hown3, hb3⟩
          case measure => simp [intOf]; omega
        · have hall := takei_all l j (by omega)
          rw [hall] at hown2
          obtain ⟨g2, cap2, hv2, hg2, _, _, _⟩ := owns_shape hown2 (by rw [nextL_length]; omega)
          subst hv2
          have hown4 := owns_mono hown2 hbel.size
          have hb4 := hbel.trans (hbel2.mono hbel.size)
          clear hown2 hall hcell hmem
          go_wp2
          go_roundw
          case rel => exact ⟨_, f', _, _, rfl, hbr', hown4, hb4⟩
          case measure => simp [lenOf]; rw [nextL_length]; omega
    · go_wp2
      go_ret
      have hd := hbr.done (by omega)
      subst hd
      exact ⟨_, _, rfl, hown, hbel⟩
end Go.Proofs.Ytkdimgghljklmaa
/-
  Rounds and Earliest: the program's and the reference's. Conditions: numbers of seeds as the functions check them.
-/
set_option linter.unusedVariables false
namespace Go.Proofs.Ytkdimgghljklmaa
open Go.RowKit Go.Bw

/-- The first place whose element satisfies p; -1: none. -/
def firstIdx {α : Type} (p : α → Bool) (l : List α) : Int := match l.findIdx? p with | some k => (k : Int) | none => -1

theorem firstIdx_found {α : Type} (p : α → Bool) (l : List α) (k : Nat) (hk : k < l.length) (h : p l[k] = true) (hb : ∀ j (hj : j < k), p (l[j]'(by omega)) = false) : firstIdx p l = k := by
  have : l.findIdx? p = some k := by
    rw [List.findIdx?_eq_some_iff_getElem]
    exact ⟨hk, h, fun j hj => by rw [hb j hj]; simp⟩
  unfold firstIdx
  rw [this]

theorem firstIdx_none {α : Type} (p : α → Bool) (l : List α) (hb : ∀ x ∈ l, p x = false) : firstIdx p l = -1 := by
  have : l.findIdx? p = none := by
    rw [List.findIdx?_eq_none_iff]
    exact hb
  unfold firstIdx
  rw [this]

def idxI (l : List Int) (v : Int) : Int := firstIdx (fun x => x == v) l

theorem idxI_found (l : List Int) (v i : Int) (h0 : 0 ≤ i) (h1 : i < l.length) (h : v = geti l i) (hb : ∀ j : Int, 0 ≤ j → j < i → v ≠ geti l j) : idxI l v = i := by
  have := firstIdx_found (fun x => x == v) l i.toNat (by omega) (by simp [h, geti, List.getElem?_eq_getElem (show i.toNat < l.length by omega)]) (fun j hj => by
    have := hb j (by omega) (by omega)
    simp only [geti, Int.toNat_natCast, List.getElem?_eq_getElem (show j < l.length by omega), Option.getD_some] at this
    simpa using Ne.symm this)
  unfold idxI
  rw [this]
  omega

theorem idxI_none (l : List Int) (v : Int) (hb : ∀ j : Int, 0 ≤ j → j < l.length → v ≠ geti l j) : idxI l v = -1 := by
  refine firstIdx_none _ _ fun x hx => ?_
  obtain ⟨j, hj, rfl⟩ := List.getElem_of_mem hx
  have := hb j (by omega) (by omega)
  simp only [geti, Int.toNat_natCast, List.getElem?_eq_getElem hj, Option.getD_some] at this
  simpa using Ne.symm this

/-- What is not among the first i. -/
def NotYet (l : List Int) (v i : Int) : Prop := ∀ j : Int, 0 ≤ j → j < i → v ≠ geti l j
theorem NotYet.step {l : List Int} {v i : Int} (h : NotYet l v i) (hn : ¬ v = geti l i) : NotYet l v (i + 1) := fun j h0 h1 => by
  by_cases e : j = i
  · subst e; exact hn
  · exact h j h0 (by omega)

set_option maxHeartbeats 400000 in
theorem index_int (v : Value) (n : Nat) (l : List Int) (x : Int) (base : Nat) (w : World) (h : Row w base 1 v n (l.map (.int .i64))) :
    Calls Try.prog 77 #[v, .int .i64 x] w fun e w' => e = .returned (.int .i64 (idxI l x)) ∧ w = w' := by
  obtain ⟨hlen, hcase⟩ := h.ints
  have hv : ∃ a cap, v = .slice a n cap := by
    rcases hcase with ⟨rfl, rfl⟩ | ⟨bz, off, cap, rfl, _⟩ <;> exact ⟨_, _, rfl⟩
  have hm : n ≤ 9223372036854775807 := by
    rcases hcase with ⟨_, rfl⟩ | ⟨bz, off, cap, _, _, _, h1, h2, _⟩
    · omega
    · unfold maxLen at h2; omega
  obtain ⟨a, cap, rfl⟩ := hv
  subst hlen
  clear h
  go_enter Try.func77, Try.ntmps77
  go_wp2
  go_loop [8] (fun i => ∃ k : Int, 0 ≤ k ∧ k ≤ l.length ∧ i = .int .i64 k ∧ NotYet l x k) (fun i => l.length - (intOf i).toNat)
  case atStart => exact ⟨0, by omega, by omega, rfl, fun _ _ _ => by omega⟩
  case round =>
    obtain ⟨k, hk0, hk1, rfl, hny⟩ := hrel
    by_cases hlt : k < l.length
    · rcases hcase with ⟨h, h0⟩ | ⟨bz, off, cap', h, hbb, hbs, hnc, hcm, hcell⟩
      · omega
      · simp only [Value.slice.injEq] at h
        obtain ⟨rfl, _, rfl⟩ := h
        have hc := hcell k hk0 hlt
        clear hcell
        by_cases hx : x = geti l k
        · have hf := Lib.hid (idxI_found l x k hk0 hlt hx hny)
          have hx' : (x == geti l k) = true := by simp [hx]
          clear hx hny
          go_wp2
          go_ret
          exact ⟨ret_int hf.out.symm, rfl⟩
        · have hny' := hny.step hx
          have hx' : (x == geti l k) = false := by simp [hx]
          clear hx hny
          go_wp2
          go_round
          case rel => exact ⟨k + 1, by omega, by omega, rfl, hny'⟩
          case measure => simp [intOf]; omega
    · have hf := Lib.hid (idxI_none l x (fun j h0 h1 => hny j h0 (by omega)))
      clear hny hcase
      go_wp2
      go_ret
      exact ⟨ret_int hf.out.symm, rfl⟩

theorem idxI_nonneg (l : List Int) (v : Int) : -1 ≤ idxI l v ∧ idxI l v < 2 ^ 63 ∨ (2 : Int) ^ 63 ≤ l.length := by
  unfold idxI firstIdx
  split
  · rename_i k h
    have := (List.findIdx?_eq_some_iff_getElem.1 h).1
    omega
  · omega

def hasI (l : List Int) (v : Int) : Bool := decide (0 ≤ idxI l v)

set_option maxHeartbeats 400000 in
theorem contains_int (v : Value) (n : Nat) (l : List Int) (x : Int) (base : Nat) (w : World) (h : Row w base 1 v n (l.map (.int .i64))) :
    Calls Try.prog 49 #[v, .int .i64 x] w fun e w' => e = .returned (.bool (hasI l x)) ∧ w = w' := by
  go_enter Try.func49, Try.ntmps49
  go_wp2_with (go_at_call 77; refine (index_int _ _ _ _ _ _ h).mono ?_; rintro e w1 ⟨rfl, rfl⟩)
  go_ret
  exact ⟨by simp [hasI], rfl⟩

def manyF (many : Int) : Int := if outB many 2 20 then 1 else 0
theorem manyF_bad {many : Int} (h : outB many 2 20 = true) : manyF many = 1 := by simp [manyF, h]
theorem manyF_ok {many : Int} (h : outB many 2 20 = false) : manyF many = 0 := by simp [manyF, h]
theorem manyF_ok' {many : Int} (h0 : 2 ≤ many) (h : many ≤ 20) : manyF many = 0 := manyF_ok (by simp [outB]; omega)

set_option maxHeartbeats 400000 in
theorem manyFault_prog (many : Int) (w : World) : Calls Try.prog 79 #[.int .i64 many] w fun e w' => e = .returned (.int .i64 (manyF many)) ∧ w = w' := by
  cases h : outB many 2 20
  · rw [manyF_ok h]
    go_enter Try.func79, Try.ntmps79
    go_wp2_with (go_at_call 42; refine (out_any _ _ _ _).mono ?_; rintro e w1 ⟨rfl, rfl⟩)
    go_ret
    exact ⟨rfl, rfl⟩
  · rw [manyF_bad h]
    go_enter Try.func79, Try.ntmps79
    go_wp2_with (go_at_call 42; refine (out_any _ _ _ _).mono ?_; rintro e w1 ⟨rfl, rfl⟩)
    go_ret
    exact ⟨rfl, rfl⟩

theorem outB_false {n low high : Int} (h : outB n low high = false) : low ≤ n ∧ n ≤ high := by
  simp [outB] at h; omega

/-- How many rounds there are. -/
def roundsF (many : Int) : Int := if many ≤ 1 then 0 else if many ≤ 2 then 1 else if many ≤ 4 then 2 else if many ≤ 8 then 3 else if many ≤ 16 then 4 else 5

theorem roundsF_le (many : Int) : 0 ≤ roundsF many ∧ roundsF many ≤ 5 := by
  unfold roundsF; repeat' split
  all_goals omega

theorem roundsF_step (many k : Int) (hm : many ≤ 20) (h0 : 0 ≤ k) (h : k ≤ 5) : ((2 : Int) ^ k.toNat < many → k + 1 ≤ roundsF many) ∧ (many ≤ (2 : Int) ^ k.toNat → roundsF many ≤ k) := by
  have hk : k = 0 ∨ k = 1 ∨ k = 2 ∨ k = 3 ∨ k = 4 ∨ k = 5 := by omega
  rcases hk with rfl | rfl | rfl | rfl | rfl | rfl
  all_goals
    unfold roundsF
    constructor
    all_goals
      intro h2
      simp at h2
      repeat' split
      all_goals omega

set_option maxHeartbeats 1000000 in
theorem rounds_prog (many : Int) (w : World) (h : many ≤ 20) : Calls Try.prog 56 #[.int .i64 many] w fun e w' => e = .returned (.int .i64 (roundsF many)) ∧ w = w' := by
  have hr := roundsF_le many
  go_enter Try.func56, Try.ntmps56
  go_wp2
  go_loop [3] (fun i => ∃ k : Int, 0 ≤ k ∧ k ≤ roundsF many ∧ i = .int .i64 k) (fun i => 6 - (intOf i).toNat)
  case atStart => exact ⟨0, by omega, by omega, rfl⟩
  case round =>
    obtain ⟨k, hk0, hk1, rfl⟩ := hrel
    have hk : k = 0 ∨ k = 1 ∨ k = 2 ∨ k = 3 ∨ k = 4 ∨ k = 5 := by omega
    have hst := Lib.hid (roundsF_step many k h hk0 (by omega))
    rcases hk with rfl | rfl | rfl | rfl | rfl | rfl
    all_goals go_wp2
    all_goals first
      | (go_ret; exact ⟨ret_int (by have := hst.out.2 (by simp; omega); omega), rfl⟩)
      | (go_round
         case rel => exact ⟨_, by omega, hst.out.1 (by simp; omega), rfl⟩
         case measure => simp [intOf])
    all_goals go_ways

def halv (k : Int) : Int := if k ≤ 1 then 0 else if k ≤ 3 then 1 else if k ≤ 7 then 2 else if k ≤ 15 then 3 else if k ≤ 31 then 4 else if k ≤ 63 then 5 else 6
theorem halv_step (k : Int) (h : 1 < k) (h' : k ≤ 64) : halv (k / 2) + 1 = halv k ∧ 1 ≤ k / 2 := by
  refine ⟨?_, by omega⟩
  unfold halv
  repeat' split
  all_goals omega
theorem halv_le (k : Int) : 0 ≤ halv k ∧ halv k ≤ 6 := by
  unfold halv; repeat' split
  all_goals omega
theorem halv_one (k : Int) (h : k ≤ 1) : halv k = 0 := by simp [halv, h]

theorem bracketL_length (many : Int) (h : 2 ≤ many) (h' : many ≤ 20) : halv (bracketL many).length = roundsF many ∧ ((bracketL many).length : Int) = 2 ^ (roundsF many).toNat ∧ (bracketL many).length ≤ 32 := by
  have : many = 2 ∨ many = 3 ∨ many = 4 ∨ many = 5 ∨ many = 6 ∨ many = 7 ∨ many = 8 ∨ many = 9 ∨ many = 10 ∨ many = 11 ∨ many = 12 ∨ many = 13 ∨ many = 14 ∨ many = 15 ∨ many = 16 ∨ many = 17 ∨ many = 18 ∨ many = 19 ∨ many = 20 := by omega
  rcases this with rfl | rfl | rfl | rfl | rfl | rfl | rfl | rfl | rfl | rfl | rfl | rfl | rfl | rfl | rfl | rfl | rfl | rfl | rfl
  all_goals decide +kernel

set_option maxHeartbeats 1000000 in
theorem rounds_ref (many : Int) (w : World) (h : 2 ≤ many) (h' : many ≤ 20) : Calls Try.prog 63 #[.int .i64 many] w fun e w' => e = .returned (.int .i64 (roundsF many)) ∧ Below w.heap.size w w' := by
  obtain ⟨hb1, hb2, hb3⟩ := bracketL_length many h h'
  have H1 := Lib.hid hb1
  have hL : ((bracketL many).length : Int) ≤ 32 := by omega
  have hL0 : (1 : Int) ≤ (bracketL many).length := by
    rw [hb2]
    have : 1 ≤ (2 : Nat) ^ (roundsF many).toNat := Nat.one_le_two_pow
    exact_mod_cast this
  have hr := roundsF_le many
  clear hb1 hb2 hb3
  go_enter Try.func63, Try.ntmps63
  go_wp2_with (go_at_call 55; refine (bracket_any _ _ (by omega)).mono ?_; rintro e w1 ⟨g, cap, rfl, hown, hbel⟩)
  clear hown
  go_loop [3, 4] (fun i j => ∃ n k : Int, 0 ≤ n ∧ n ≤ 6 ∧ 1 ≤ k ∧ k ≤ 64 ∧ i = .int .i64 n ∧ j = .int .i64 k ∧ Hid (halv k + n = roundsF many)) (fun i _ => 7 - (intOf i).toNat)
  case atStart => exact ⟨0, _, by omega, by omega, hL0, by omega, rfl, rfl, by show _ = _; rw [H1.out]; omega⟩
  case round =>
    obtain ⟨n, k, hn0, hn1, hk0, hk1, rfl, rfl, hh⟩ := hrel
    by_cases hlt : 1 < k
    · obtain ⟨hs, hs1⟩ := halv_step k hlt hk1
      have hh1 := hh.out
      have hl2 := halv_le (k / 2)
      have hn6 : n + 1 ≤ 6 := by omega
      have HH : Hid (halv (k / 2) + (n + 1) = roundsF many) := by show _ = _; omega
      have hk2 : k / 2 ≤ 64 := by omega
      clear hs hh1 hh
      go_wp2
      go_round
      case rel => exact ⟨_, _, by omega, by omega, hs1, by omega, rfl, rfl, HH⟩
      case measure => simp [intOf]; omega
    · have hh1 := hh.out
      rw [halv_one k (by omega)] at hh1
      have HH := Lib.hid hh1
      clear hh1 hh
      go_wp2
      go_ret
      exact ⟨ret_int (by have := HH.out; omega), hbel⟩

end Go.Proofs.Ytkdimgghljklmaa
/-
  The games of the first round: the reference's. Condition: at most 20 seeds.
-/
set_option linter.unusedVariables false
namespace Go.Proofs.Ytkdimgghljklmaa
open Go.RowKit Go.Bw

theorem el_pair2 : Elem Try.prog 80 84 (.agg #[.int .i64 0, .int .i64 0]) 2 16 := ⟨by kernel_rfl, by kernel_rfl, by kernel_rfl, by decide, by decide⟩

def cells2 (l : List (Int × Int)) : List Value := l.flatMap fun p => [.int .i64 p.1, .int .i64 p.2]
theorem cells2_length (l : List (Int × Int)) : (cells2 l).length = l.length * 2 := by
  unfold cells2
  induction l with
  | nil => rfl
  | cons x l ih => simp [List.flatMap_cons, ih]; omega
theorem cells2_snoc (l : List (Int × Int)) (p : Int × Int) : cells2 (l ++ [p]) = cells2 l ++ [.int .i64 p.1, .int .i64 p.2] := by simp [cells2]

/-- The game of those at j and j + 1. -/
def gm (many : Int) (l : List Int) (j : Int) : Int × Int := (min (geti l j) (geti l (j + 1)), if many < max (geti l j) (geti l (j + 1)) then 0 else max (geti l j) (geti l (j + 1)))
def gms (many : Int) (l : List Int) (k : Int) : List (Int × Int) := (List.range k.toNat).map fun (j : Nat) => gm many l (2 * (j : Int))
theorem gms_succ (many : Int) (l : List Int) (k : Int) (h : 0 ≤ k) : gms many l (k + 1) = gms many l k ++ [gm many l (2 * k)] := by
  unfold gms
  rw [show (k + 1).toNat = k.toNat + 1 by omega, List.range_succ, List.map_append]
  simp [show ((k.toNat : Nat) : Int) = k by omega]
theorem gms_length (many : Int) (l : List Int) (k : Int) : (gms many l k).length = k.toNat := by simp [gms]

end Go.Proofs.Ytkdimgghljklmaa
/-
  Finals: plain lemmas on who wins a game and who is left, the program's numbers and the reference's. No condition on a program.
-/
set_option linter.unusedVariables false
namespace Go.Proofs.Ytkdimgghljklmaa
open Go.RowKit Go.Bw
/-- The number of a string among strings; below 0 if it is not there. -/
def whoI (ts : List ByteArray) (x : ByteArray) : Int := Lib.idxOfS ts x
theorem idxFromS_cases (x : ByteArray) : ∀ (zs : List ByteArray) (i : Nat), (Lib.idxFromS zs x i = -1 ∧ x ∉ zs) ∨ ∃ (k : Nat) (hk : k < zs.length), Lib.idxFromS zs x i = ((i + k : Nat) : Int) ∧ zs[k] = x
  | [], i => .inl ⟨rfl, by simp⟩
  | z :: zs, i => by
    unfold Lib.idxFromS
    split
    · rename_i h
      exact .inr ⟨0, by simp, by simp, by simpa using h⟩
    · rename_i h
      rcases idxFromS_cases x zs (i + 1) with ⟨h1, h2⟩ | ⟨k, hk, h1, h2⟩
      · exact .inl ⟨h1, by simp [h2]; exact fun e => h e.symm⟩
      · exact .inr ⟨k + 1, by simp; omega, by rw [h1]; congr 1; omega, by simpa using h2⟩
theorem whoI_cases (ts : List ByteArray) (x : ByteArray) : (whoI ts x = -1 ∧ x ∉ ts) ∨ (0 ≤ whoI ts x ∧ whoI ts x < ts.length ∧ geta ts (whoI ts x) = x) := by
  rcases idxFromS_cases x ts 0 with ⟨h1, h2⟩ | ⟨k, hk, h1, h2⟩
  · exact .inl ⟨h1, h2⟩
  · have h3 : whoI ts x = (k : Int) := by unfold whoI Lib.idxOfS; rw [h1]; simp
    rw [h3]
    refine .inr ⟨by omega, by omega, ?_⟩
    rw [geta_eq ts k (by omega) (by omega)]
    simpa using h2
theorem SGood.key {ts : List ByteArray} (h : SGood ts) (i : Int) (h0 : 0 ≤ i) (h1 : i < ts.length) : keyB (geta ts i) = true ∧ hasTo ts i (geta ts i) = false := by
  have := h.no i h0 h1
  unfold teamAt at this
  refine ⟨?_, ?_⟩
  · cases hk : keyB (geta ts i)
    · rw [hk] at this; simp at this
    · rfl
  · cases hk : keyB (geta ts i)
    · rw [hk] at this; simp at this
    · rw [hk, if_neg (by decide)] at this
      cases hh : hasTo ts i (geta ts i)
      · rfl
      · rw [hh] at this; simp at this
theorem SGood.dist {ts : List ByteArray} (h : SGood ts) (i j : Int) (h0 : 0 ≤ i) (h1 : i < j) (h2 : j < ts.length) : geta ts i ≠ geta ts j := by
  intro e
  have hk := (h.key j (by omega) h2).2
  have : hasTo ts j (geta ts j) = true := by
    unfold hasTo
    rw [hasS_iff, ← e, geta_eq ts i h0 (by omega)]
    exact List.mem_take_iff_getElem.2 ⟨i.toNat, by omega, rfl⟩
  rw [hk] at this
  cases this
theorem who_at {ts : List ByteArray} (h : SGood ts) (i : Int) (h0 : 0 ≤ i) (h1 : i < ts.length) : whoI ts (geta ts i) = i := by
  rcases whoI_cases ts (geta ts i) with ⟨_, h2⟩ | ⟨a, b, c⟩
  · exact absurd (geta_mem h0 h1) h2
  · by_cases hlt : whoI ts (geta ts i) < i
    · exact absurd c (h.dist _ i a hlt h1)
    · by_cases hgt : i < whoI ts (geta ts i)
      · exact absurd c.symm (h.dist i _ h0 hgt b)
      · omega
theorem key_ne {x : ByteArray} (h : keyB x = true) : x ≠ ByteArray.empty := by
  rintro rfl
  exact absurd h (by decide)
/-- The name of a number; beyond the seeds there is nobody. -/
def nmP (ts : List ByteArray) (i : Int) : ByteArray := if i < ts.length then geta ts i else ByteArray.empty
theorem nm_iff {ts : List ByteArray} (h : SGood ts) (x : ByteArray) (hx : x ≠ ByteArray.empty) (a : Int) (h0 : 0 ≤ a) : x = nmP ts a ↔ (a < ts.length ∧ whoI ts x = a) := by
  unfold nmP
  split
  · rename_i h1
    constructor
    · rintro rfl
      exact ⟨h1, who_at h a h0 h1⟩
    · rintro ⟨_, e⟩
      rcases whoI_cases ts x with ⟨e2, _⟩ | ⟨_, _, e3⟩
      · omega
      · rw [e] at e3; exact e3.symm
  · rename_i h1
    exact ⟨fun e => absurd e hx, fun e => absurd e.1 h1⟩
theorem who_empty {ts : List ByteArray} (h : SGood ts) : whoI ts ByteArray.empty = -1 := by
  rcases whoI_cases ts ByteArray.empty with ⟨e, _⟩ | ⟨a, b, c⟩
  · exact e
  · exact absurd c (key_ne (h.key _ a b).1)
/-- Does nobody of two win? -/
def badG (ts : List ByteArray) (a b : Int) (x : ByteArray) : Prop := x = ByteArray.empty ∨ (x ≠ nmP ts a ∧ x ≠ nmP ts b)
instance (ts : List ByteArray) (a b : Int) (x : ByteArray) : Decidable (badG ts a b x) := inferInstanceAs (Decidable (_ ∨ _))
def hiG (a b : Int) : Int := min (a + 1) (b + 1)
def loG (n a b : Int) : Int := if n < max (a + 1) (b + 1) then 0 else max (a + 1) (b + 1)
def winG (ts : List ByteArray) (a b : Int) (x : ByteArray) : Int := if x = nmP ts a then a else b
def losG (ts : List ByteArray) (a b : Int) (x : ByteArray) : Int := if x = nmP ts a then b else a
theorem bad_eq {ts : List ByteArray} (h : SGood ts) (a b : Int) (x : ByteArray) (ha : 0 ≤ a) (hb : 0 ≤ b) (hab : a < ts.length ∨ b < ts.length) :
    ((whoI ts x + 1 == 0) || (whoI ts x + 1 != hiG a b && whoI ts x + 1 != loG ts.length a b)) = decide (badG ts a b x) := by
  by_cases hx : x = ByteArray.empty
  · subst hx
    rw [who_empty h]
    simp [badG]
  · have hr := whoI_cases ts x
    have n2 := h.n2
    have e : badG ts a b x ↔ ¬ (a < ts.length ∧ whoI ts x = a) ∧ ¬ (b < ts.length ∧ whoI ts x = b) := by
      unfold badG
      rw [← nm_iff h x hx a ha, ← nm_iff h x hx b hb]
      simp [hx]
    rw [show decide (badG ts a b x) = decide (¬ (a < ts.length ∧ whoI ts x = a) ∧ ¬ (b < ts.length ∧ whoI ts x = b)) from decide_eq_decide.2 e, Bool.eq_iff_iff]
    simp only [Bool.or_eq_true, Bool.and_eq_true, beq_iff_eq, bne_iff_ne, decide_eq_true_eq, ne_eq]
    have hr2 : whoI ts x = -1 ∨ (0 ≤ whoI ts x ∧ whoI ts x < ts.length) := by rcases hr with ⟨h1, _⟩ | ⟨h1, h2, _⟩ <;> omega
    unfold hiG loG
    split <;> omega
/-- What a game without a fault gives. -/
inductive GameI (ts : List ByteArray) (a b : Int) (x : ByteArray) : Prop
  | both (h1 : whoI ts x + 1 = hiG a b) (h2 : loG ts.length a b ≠ 0) (h3 : winG ts a b x + 1 = whoI ts x + 1) (h4 : losG ts a b x + 1 = loG ts.length a b) (h5 : losG ts a b x < ts.length)
  | alone (h1 : whoI ts x + 1 = hiG a b) (h2 : loG ts.length a b = 0) (h3 : winG ts a b x + 1 = whoI ts x + 1) (h5 : ¬ losG ts a b x < ts.length)
  | low (h1 : whoI ts x + 1 ≠ hiG a b) (h3 : winG ts a b x + 1 = whoI ts x + 1) (h4 : losG ts a b x + 1 = hiG a b) (h5 : losG ts a b x < ts.length)
theorem game_of {ts : List ByteArray} (h : SGood ts) (a b : Int) (x : ByteArray) (ha : 0 ≤ a) (hb : 0 ≤ b) (hab : a < ts.length ∨ b < ts.length) (hg : ¬ badG ts a b x) : GameI ts a b x := by
  have hx : x ≠ ByteArray.empty := fun e => hg (.inl e)
  have n2 := h.n2
  have e1 := nm_iff h x hx a ha
  have e2 := nm_iff h x hx b hb
  by_cases h1 : x = nmP ts a
  · have hw : winG ts a b x = a := by unfold winG; rw [if_pos h1]
    have hl : losG ts a b x = b := by unfold losG; rw [if_pos h1]
    obtain ⟨q1, q2⟩ := e1.1 h1
    by_cases hhi : a + 1 = hiG a b
    · by_cases hlo : loG ts.length a b = 0
      · refine .alone (by omega) hlo (by omega) ?_
        unfold hiG at hhi
        unfold loG at hlo
        split at hlo <;> omega
      · have hnl : ¬ (ts.length : Int) < max (a + 1) (b + 1) := fun e => hlo (by unfold loG; rw [if_pos e])
        have hle : loG ts.length a b = max (a + 1) (b + 1) := by unfold loG; rw [if_neg hnl]
        unfold hiG at hhi
        exact .both (by unfold hiG; omega) hlo (by omega) (by omega) (by omega)
    · refine .low (by omega) (by omega) ?_ ?_
      all_goals
        unfold hiG at *
        omega
  · have hw : winG ts a b x = b := by unfold winG; rw [if_neg h1]
    have hl : losG ts a b x = a := by unfold losG; rw [if_neg h1]
    have h2 : x = nmP ts b := Decidable.byContradiction fun h2 => hg (.inr ⟨h1, h2⟩)
    obtain ⟨q1, q2⟩ := e2.1 h2
    by_cases hhi : b + 1 = hiG a b
    · by_cases hlo : loG ts.length a b = 0
      · refine .alone (by omega) hlo (by omega) ?_
        unfold hiG at hhi
        unfold loG at hlo
        split at hlo <;> omega
      · have hnl : ¬ (ts.length : Int) < max (a + 1) (b + 1) := fun e => hlo (by unfold loG; rw [if_pos e])
        have hle : loG ts.length a b = max (a + 1) (b + 1) := by unfold loG; rw [if_neg hnl]
        unfold hiG at hhi
        exact .both (by unfold hiG; omega) hlo (by omega) (by omega) (by omega)
    · refine .low (by omega) (by omega) ?_ ?_
      all_goals
        unfold hiG at *
        omega
/-- The games of a round: who is left, two by two. -/
def gA (left : List Int) (j : Int) : Int := geti left (2 * j)
def gB (left : List Int) (j : Int) : Int := geti left (2 * j + 1)
def gErr (ts : List ByteArray) (left : List Int) (ws : List ByteArray) (j : Int) : Int := if badG ts (gA left j) (gB left j) (geta ws j) then 8 else 0
def gWin (ts : List ByteArray) (left : List Int) (ws : List ByteArray) (j : Int) : Int := winG ts (gA left j) (gB left j) (geta ws j)
def gLos (ts : List ByteArray) (left : List Int) (ws : List ByteArray) (j : Int) : Int := losG ts (gA left j) (gB left j) (geta ws j)
def rndE (ts : List ByteArray) (left : List Int) (ws : List ByteArray) : Int := if (ws.length : Int) ≠ (left.length : Int) / 2 then 3 else firstErr (gErr ts left ws) ws.length
def winL (ts : List ByteArray) (left : List Int) (ws : List ByteArray) (k : Int) : List Int := (List.range k.toNat).map fun (j : Nat) => gWin ts left ws (j : Int)
def losL (ts : List ByteArray) (left : List Int) (ws : List ByteArray) (k : Int) : List Int := (List.range k.toNat).map fun (j : Nat) => gLos ts left ws (j : Int)
theorem winL_succ (ts : List ByteArray) (left : List Int) (ws : List ByteArray) (k : Int) (h0 : 0 ≤ k) : winL ts left ws (k + 1) = winL ts left ws k ++ [gWin ts left ws k] := by
  unfold winL
  rw [show (k + 1).toNat = k.toNat + 1 by omega, List.range_succ, List.map_append]
  simp [Int.toNat_of_nonneg h0]
theorem losL_succ (ts : List ByteArray) (left : List Int) (ws : List ByteArray) (k : Int) (h0 : 0 ≤ k) : losL ts left ws (k + 1) = losL ts left ws k ++ [gLos ts left ws k] := by
  unfold losL
  rw [show (k + 1).toNat = k.toNat + 1 by omega, List.range_succ, List.map_append]
  simp [Int.toNat_of_nonneg h0]
/-- The numbers of those who are there, from 1 on. -/
def upL (l : List Int) : List Int := l.map fun x => x + 1
def realL (n : Nat) (l : List Int) : List Int := l.filter fun x => decide (x < (n : Int))
theorem upL_snoc (l : List Int) (x : Int) : upL (l ++ [x]) = upL l ++ [x + 1] := by simp [upL]
theorem realL_yes (n : Nat) (l : List Int) (x : Int) (h : x < (n : Int)) : realL n (l ++ [x]) = realL n l ++ [x] := by simp [realL, h]
theorem realL_no (n : Nat) (l : List Int) (x : Int) (h : ¬ x < (n : Int)) : realL n (l ++ [x]) = realL n l := by simp [realL, h]
theorem upL_length (l : List Int) : (upL l).length = l.length := by simp [upL]
theorem upL_at (l : List Int) (i : Int) (h0 : 0 ≤ i) (h1 : i < l.length) : geti (upL l) i = geti l i + 1 := by
  have : i.toNat < l.length := by omega
  simp [geti, upL, this]
/-- Who is left ahead of a round of N games. -/
structure LOk (ts : List ByteArray) (left : List Int) (N : Nat) : Prop where
  len : left.length = 2 * N
  n16 : N ≤ 16
  a0 : ∀ i : Int, 0 ≤ i → i < left.length → 0 ≤ geti left i
  one : ∀ j : Int, 0 ≤ j → j < N → gA left j < ts.length ∨ gB left j < ts.length
/-- The program's games are those of who is left. -/
theorem game_at {ts : List ByteArray} {left : List Int} {N : Nat} (l : LOk ts left N) (n j : Int) (h0 : 0 ≤ j) (h1 : j < N) : gm n (upL left) (2 * j) = (hiG (gA left j) (gB left j), loG n (gA left j) (gB left j)) := by
  have hl := l.len
  unfold gm hiG loG gA gB
  rw [upL_at left (2 * j) (by omega) (by omega), upL_at left (2 * j + 1) (by omega) (by omega)]
end Go.Proofs.Ytkdimgghljklmaa
/-
  slices.Equal at pairs of seeds; the law's own look that the package makes brackets. Condition: fewer than 2^40 pairs.
-/
set_option linter.unusedVariables false
namespace Go.Proofs.Ytkdimgghljklmaa
open Go.RowKit Go.Bw

def getp (l : List (Int × Int)) (i : Int) : Int × Int := l[i.toNat]?.getD (0, 0)

theorem cells2_get (l : List (Int × Int)) : ∀ (k : Nat), k < l.length → (cells2 l)[2 * k]? = some (.int .i64 (l[k]?.getD (0, 0)).1) ∧ (cells2 l)[2 * k + 1]? = some (.int .i64 (l[k]?.getD (0, 0)).2) := by
  induction l with
  | nil => intro k hk; simp at hk
  | cons p l ih =>
    intro k hk
    have e : cells2 (p :: l) = .int .i64 p.1 :: .int .i64 p.2 :: cells2 l := rfl
    cases k with
    | zero => simp [e]
    | succ k =>
      have := ih k (by simpa using hk)
      rw [e, show 2 * (k + 1) = 2 * k + 1 + 1 by omega, show 2 * k + 1 + 1 + 1 = (2 * k + 1) + 1 + 1 by omega]
      simpa using this

theorem row_pairs {w : World} {base n : Nat} {v : Value} {xs : List (Int × Int)} (h : Row w base 2 v n (cells2 xs)) :
    xs.length = n ∧ ((v = .slice none 0 0 ∧ n = 0) ∨ ∃ b off cap, v = .slice (some ⟨b, off, none⟩) n cap ∧ base ≤ b ∧ b < w.heap.size ∧ n ≤ cap ∧ cap ≤ maxLen ∧
      ∀ i : Int, 0 ≤ i → i < n → w.cell? ⟨b, off + i.toNat * 2, none⟩ = some (.int .i64 (getp xs i).1) ∧ w.cell? ⟨b, off + i.toNat * 2 + 1, none⟩ = some (.int .i64 (getp xs i).2)) := by
  obtain ⟨h1, h2⟩ := h
  have hl : xs.length = n := by have := cells2_length xs; omega
  refine ⟨hl, ?_⟩
  rcases h2 with h2 | ⟨b, off, cap, e, hb, hlt, hn, hc, hcell⟩
  · exact .inl h2
  · refine .inr ⟨b, off, cap, e, hb, hlt, hn, hc, fun i h0 hi => ?_⟩
    obtain ⟨g1, g2⟩ := cells2_get xs i.toNat (by omega)
    refine ⟨?_, ?_⟩
    · have := hcell _ _ g1
      rwa [show 2 * i.toNat = i.toNat * 2 by omega] at this
    · have := hcell _ _ g2
      rwa [show 2 * i.toNat + 1 = i.toNat * 2 + 1 by omega, ← Nat.add_assoc] at this

theorem row_of (w : World) (base e sz n : Nat) (v : Value) (cs : List Value) (h : w.ownsRow base e sz v n cs) : Row w base sz v n cs := Row.of_owns h
end Go.Proofs.Ytkdimgghljklmaa
/-
  Lots: what is wrong with how many are drawn, the program's and the reference's look; how far a team can fall, the program's. Conditions: as for weights; Go's numbers.
-/
set_option linter.unusedVariables false
namespace Go.Proofs.Ytkdimgghljklmaa
open Go.RowKit Go.Bw
theorem topB_out (n : Nat) (top : Int) : outB top 0 (min 4 (n : Int)) = topB n top := by
  unfold outB topB
  by_cases a : top < 0 <;> by_cases b : 4 < top <;> by_cases c : (n : Int) < top <;> simp [a, b, c] <;> omega
def topR (n : Nat) (top : Int) : Int := if topB n top = true then 1 else 0
theorem topE_eq (ts : List ByteArray) (ws : List Int) (top : Int) : topE ts ws top = if weightsE ts ws ≠ 0 then weightsE ts ws else topR ts.length top := rfl

set_option maxRecDepth 100000 in
set_option maxHeartbeats 1000000 in
theorem top_prog (w0 : World) (vt vw : Value) (ts : List ByteArray) (ws : List Int) (top : Int) (h : WH w0 vt vw ts ws) :
    Calls Try.prog 35 #[vt, vw, .int .i64 top] w0 fun e w' => e = .returned (.int .i64 (topE ts ws top)) ∧ w0 = w' := by
  have HW := Lib.hid (weights_prog w0 vt vw ts ws h)
  have HE := Lib.hid (topE_eq ts ws top)
  have HT := Lib.hid (topB_out ts.length top)
  have hn := h.tn
  obtain ⟨p1, c1, hv1⟩ := h.t.shape
  subst hv1
  clear h
  by_cases h0 : weightsE ts ws = 0
  · rw [h0] at HW
    have H0 := Lib.hid h0
    clear h0
    have HO := Lib.hid (fun w => out_any top 0 (min 4 (ts.length : Int)) w)
    rw [HT.out] at HO
    cases hb : topB ts.length top
    · have HR := Lib.hid (show topE ts ws top = 0 by rw [HE.out, if_neg (by simp [H0.out]), topR, hb]; rfl)
      rw [hb] at HO
      clear hb
      go_enter Try.func35, Try.ntmps35
      go_wp2_with (first | (go_at_call 22; refine HW.out.mono ?_; rintro e w1 ⟨rfl, rfl⟩) | (go_at_call 42; refine (HO.out _).mono ?_; rintro e w1 ⟨rfl, rfl⟩))
      go_ret
      exact ⟨ret_int HR.out.symm, rfl⟩
    · have HR := Lib.hid (show topE ts ws top = 1 by rw [HE.out, if_neg (by simp [H0.out]), topR, hb]; rfl)
      rw [hb] at HO
      clear hb
      go_enter Try.func35, Try.ntmps35
      go_wp2_with (first | (go_at_call 22; refine HW.out.mono ?_; rintro e w1 ⟨rfl, rfl⟩) | (go_at_call 42; refine (HO.out _).mono ?_; rintro e w1 ⟨rfl, rfl⟩))
      go_ret
      exact ⟨ret_int HR.out.symm, rfl⟩
  · have HR := Lib.hid (show topE ts ws top = weightsE ts ws by rw [HE.out, if_pos h0])
    generalize weightsE ts ws = e0 at *
    have hz : (e0 == 0) = false := by simp [h0]
    clear h0
    go_enter Try.func35, Try.ntmps35
    go_wp2_with (go_at_call 22; refine HW.out.mono ?_; rintro e w1 ⟨rfl, rfl⟩)
    go_ret
    exact ⟨ret_int HR.out.symm, rfl⟩

set_option maxRecDepth 100000 in
set_option maxHeartbeats 1000000 in
theorem top_ref (w0 : World) (vt : Value) (n : Nat) (sz base : Nat) (cs : List Value) (top : Int) (h : Row w0 base sz vt n cs) :
    Calls Try.prog 16 #[vt, .int .i64 top] w0 fun e w' => e = .returned (.int .i64 (topR n top)) ∧ w0 = w' := by
  obtain ⟨p1, c1, hv1⟩ := h.shape
  subst hv1
  clear h
  have HO := Lib.hid (fun w => in_any top 0 4 w)
  cases ho : outB top 0 4
  · by_cases hn : (n : Int) < top
    · have HR := Lib.hid (show topR n top = 1 by unfold topR topB; simp [hn])
      have hd : decide ((n : Int) < top) = true := by simp [hn]
      rw [ho] at HO
      clear ho hn
      go_enter Try.func16, Try.ntmps16
      go_wp2_with (go_at_call 47; refine (HO.out _).mono ?_; rintro e w1 ⟨rfl, rfl⟩)
      go_ret
      exact ⟨ret_int HR.out.symm, rfl⟩
    · have HR := Lib.hid (show topR n top = 0 by have := out_no ho; unfold topR topB; rw [if_neg]; simp; omega)
      have hd : decide ((n : Int) < top) = false := by simp; omega
      rw [ho] at HO
      clear ho hn
      go_enter Try.func16, Try.ntmps16
      go_wp2_with (go_at_call 47; refine (HO.out _).mono ?_; rintro e w1 ⟨rfl, rfl⟩)
      go_ret
      exact ⟨ret_int HR.out.symm, rfl⟩
  · have HR := Lib.hid (show topR n top = 1 by unfold topR topB; simp [outB] at ho; rw [if_pos]; simp; omega)
    rw [ho] at HO
    clear ho
    go_enter Try.func16, Try.ntmps16
    go_wp2_with (go_at_call 47; refine (HO.out _).mono ?_; rintro e w1 ⟨rfl, rfl⟩)
    go_ret
    exact ⟨ret_int HR.out.symm, rfl⟩

/-- How far a team can fall. -/
def fallL (ts : List ByteArray) (ws : List Int) (top : Int) : Int := if topE ts ws top = 0 then min top ((ts.length : Int) - 1) else 0
set_option maxRecDepth 100000 in
set_option maxHeartbeats 1000000 in
theorem fall_prog (w0 : World) (vt vw : Value) (ts : List ByteArray) (ws : List Int) (top : Int) (h : WH w0 vt vw ts ws) :
    Calls Try.prog 13 #[vt, vw, .int .i64 top] w0 fun e w' => e = .returned (.tuple #[.int .i64 (fallL ts ws top), .int .i64 (topE ts ws top)]) ∧ w0 = w' := by
  have HW := Lib.hid (top_prog w0 vt vw ts ws top h)
  have hn := h.tn
  obtain ⟨p1, c1, hv1⟩ := h.t.shape
  subst hv1
  clear h
  by_cases h0 : topE ts ws top = 0
  · have HF := Lib.hid (show (.tuple #[.int .i64 (fallL ts ws top), .int .i64 (topE ts ws top)] : Value) = .tuple #[.int .i64 (min top ((ts.length : Int) - 1)), .int .i64 0] by unfold fallL; rw [if_pos h0, h0])
    rw [h0] at HW
    clear h0
    go_enter Try.func13, Try.ntmps13
    go_wp2_with (go_at_call 35; refine HW.out.mono ?_; rintro e w1 ⟨rfl, rfl⟩)
    go_ret2
    exact ⟨by rw [HF.out]; rfl, rfl⟩
  · have HF := Lib.hid (show fallL ts ws top = 0 by unfold fallL; rw [if_neg h0])
    generalize topE ts ws top = e0 at *
    have hz : (e0 != 0) = true := by simp [h0]
    clear h0
    go_enter Try.func13, Try.ntmps13
    go_wp2_with (go_at_call 35; refine HW.out.mono ?_; rintro e w1 ⟨rfl, rfl⟩)
    go_ret2
    exact ⟨by rw [HF.out]; rfl, rfl⟩
end Go.Proofs.Ytkdimgghljklmaa
/-
  As the schedules for regions that draw their order and hold calls; here two operations may come up in either order. No condition on a program.
-/
set_option linter.unusedVariables false
namespace Go.Bw
open Go.RowKit
/-- A schedule: a calm operation; the one that is left; one of two. -/
inductive Sch
  | done
  | calm (i : Nat) (r : Sch)
  | one (i : Nat) (r : Sch)
  | two (i j : Nat) (r s : Sch)
def Sch.len : Sch → Nat
  | .done => 0
  | .calm _ r => r.len + 1
  | .one _ r => r.len + 1
  | .two _ _ r _ => r.len + 1
def Sch.inB (n : Nat) : Sch → Bool
  | .done => true
  | .calm i r => decide (i < n) && r.inB n
  | .one i r => decide (i < n) && r.inB n
  | .two i j r s => decide (i < n) && decide (j < n) && r.inB n && s.inB n
section
variable {P : Program} {Q : Exit → Act → World → Prop} {S : World → Prop} {md : Region.Mode}
def schB (md : Region.Mode) (ops : Array Oper) : Sch → Array Bool → Bool
  | .done, listed => (Region.ready md ops listed).isEmpty
  | .calm i r, listed => Region.free md ops listed i && (Region.ready md ops listed).contains i && schB md ops r (listed.setIfInBounds i true)
  | .one i r, listed => decide (Region.ready md ops listed = [i]) && schB md ops r (listed.setIfInBounds i true)
  | .two i j r s, listed => decide (Region.ready md ops listed = [i, j]) && (r.len == s.len) && schB md ops r (listed.setIfInBounds i true) && schB md ops s (listed.setIfInBounds j true)
def wpDo (P : Program) (ops : Array Oper) (Q : Exit → Act → World → Prop) (S : World → Prop) (o : Oper) (K : Act → World → Prop) (a : Act) (w : World) : Prop :=
  if Region.wanted o (yielded ops a.tmps) then o.wp P a w (fun a w => S w ∧ K a w) Q ∨ (o.asks P a w ∧ LetsOut Q) else S w ∧ K (a.put o.dst undef) w
def wpSch (P : Program) (l : List Oper) (Q : Exit → Act → World → Prop) (S : World → Prop) : Sch → Act → World → Prop
  | .done, a, w => Q .normal a w
  | .calm i r, a, w => ∃ o, l[i]? = some o ∧ ∃ v, YieldsIf P l.toArray S o v a ∧ wpSch P l Q S r (a.put o.dst v) w
  | .one i r, a, w => ∃ o, l[i]? = some o ∧ wpDo P l.toArray Q S o (wpSch P l Q S r) a w
  | .two i j r s, a, w => (∃ o, l[i]? = some o ∧ wpDo P l.toArray Q S o (wpSch P l Q S r) a w) ∧ ∃ o, l[j]? = some o ∧ wpDo P l.toArray Q S o (wpSch P l Q S s) a w

theorem sch_op {l : List Oper} {i : Nat} {o : Oper} {K : Act → World → Prop} {a : Act} {w : World} (ho : l[i]? = some o) (h : wpDo P l.toArray Q S o K a w) : wpOp P l.toArray Q i (fun a w => S w ∧ K a w) a w := by
  unfold wpOp
  have : l.toArray[i]? = some o := by simpa using ho
  simp only [this]
  exact h

theorem sch_H {l : List Oper} (hs : Region.noSelect l.toArray = true) (hQ : ∀ c a d v w, Q (.panic c) (Act.put a d v) w → Q (.panic c) a w) :
    ∀ (c : Sch) (listed : Array Bool) (a : Act) (w : World), schB md l.toArray c listed = true → S w → wpSch P l Q S c a w → wpAnyH P md l.toArray Q S c.len listed a w
  | .done, listed, a, w, hB, _, h => ⟨by simpa [schB] using hB, h⟩
  | .calm i r, listed, a, w, hB, hS, h => by
    simp only [schB, Bool.and_eq_true] at hB
    obtain ⟨⟨hf, hr⟩, hB'⟩ := hB
    obtain ⟨o, ho, v, hy, hk⟩ := h
    exact wpAnyH_take (by simpa using ho) hs hf hr (fun c a w => hQ c a _ _ w) hy hS (sch_H hs hQ r _ _ w hB' hS hk)
  | .one i r, listed, a, w, hB, hS, h => by
    simp only [schB, Bool.and_eq_true, decide_eq_true_eq] at hB
    obtain ⟨hr, hB'⟩ := hB
    obtain ⟨o, ho, hk⟩ := h
    refine wpAnyH_all hr (by simp) fun j hj => ?_
    obtain rfl : j = i := by simpa using hj
    exact wpOp_mono (fun a' w' h' => ⟨h'.1, sch_H hs hQ r _ a' w' hB' h'.1 h'.2⟩) (sch_op ho hk)
  | .two i j r s, listed, a, w, hB, hS, h => by
    simp only [schB, Bool.and_eq_true, decide_eq_true_eq, beq_iff_eq] at hB
    obtain ⟨⟨⟨hr, hl⟩, hB1⟩, hB2⟩ := hB
    obtain ⟨⟨o1, ho1, hk1⟩, o2, ho2, hk2⟩ := h
    refine wpAnyH_all hr (by simp) fun k hk => ?_
    simp only [List.mem_cons, List.mem_nil_iff, or_false] at hk
    rcases hk with rfl | rfl
    · exact wpOp_mono (fun a' w' h' => ⟨h'.1, sch_H hs hQ r _ a' w' hB1 h'.1 h'.2⟩) (sch_op ho1 hk1)
    · exact wpOp_mono (fun a' w' h' => ⟨h'.1, by rw [hl]; exact sch_H hs hQ s _ a' w' hB2 h'.1 h'.2⟩) (sch_op ho2 hk2)

theorem wp_region_sch {id : Nat} {a : Act} {w : World} {l : List Oper} (row : Option Nat) (c : Sch) (hm : P.follows .mixedOrders = true)
    (hB : (Region.noSelect l.toArray && schB .any l.toArray c (Array.replicate l.length false) && decide (c.len = l.length)) = true)
    (hQ : ∀ c a d v w, Q (.panic c) (Act.put a d v) w → Q (.panic c) a w)
    (h : wpSch P l Q (fun w' => w.drew.grownBy w' row) c a w.drew) : (Code.region id l.toArray true).wp P Q a w := by
  simp only [Bool.and_eq_true, decide_eq_true_eq] at hB
  obtain ⟨⟨hs, hc⟩, hlen⟩ := hB
  refine wp_region_held hm (S := fun w' => w.drew.grownBy w' row) ?_
  have := sch_H hs hQ c (Array.replicate l.length false) a w.drew hc (grown_refl _ _) h
  rw [hlen] at this
  simpa using this

theorem sch_hide {w₁ : World} {row : Option Nat} {l : List Oper} {c : Sch} {a : Act} {w : World}
    (h : ∀ W : Sch → Act → World → Prop,
      Hid (∀ i o r a w, l[i]? = some o → (∀ K : Act → Prop, (∀ a, W r a w → K a) → if Region.wanted o (yielded l.toArray a.tmps) then Oper.heldAt P w₁ row o a K else K (a.put o.dst undef)) → W (.calm i r) a w) →
      Hid (∀ i o r a w, l[i]? = some o → Region.wanted o (yielded l.toArray a.tmps) = true → (∀ K : Act → World → Prop, Hid (∀ a w, w₁.grownBy w row → W r a w → K a w) → wpList P [bare o].toArray (Exit.then K Q) [bare o] a w) → W (.one i r) a w) →
      Hid (∀ i o r a w, l[i]? = some o → w₁.grownBy w row → Region.wanted o (yielded l.toArray a.tmps) = false → W r (a.put o.dst undef) w → W (.one i r) a w) →
      Hid (∀ i j r s a w, W (.one i r) a w → W (.one j s) a w → W (.two i j r s) a w) →
      Hid (∀ a w, Q .normal a w → W .done a w) → W c a w) : wpSch P l Q (fun w => w₁.grownBy w row) c a w := by
  refine h (wpSch P l Q (fun w => w₁.grownBy w row)) (Lib.hid fun i o r a w ho hk => ?_) (Lib.hid fun i o r a w ho hw hk => ?_) (Lib.hid fun i o r a w ho hS hw hk => ?_) (Lib.hid fun i j r s a w h1 h2 => ?_) (Lib.hid fun a w hk => hk)
  · have := hk _ (fun _ h => h)
    refine ⟨o, ho, ?_⟩
    split at this
    · rename_i hw
      obtain ⟨v, hv, hn⟩ := this
      exact ⟨v, .inl ⟨hw, fun w' hw' => by have := hv w'; rwa [wof_of hw'] at this⟩, hn⟩
    · rename_i hw
      exact ⟨undef, .inr ⟨by simpa using hw, rfl⟩, this⟩
  · have := hk (fun a w => w₁.grownBy w row ∧ wpSch P l Q (fun w => w₁.grownBy w row) r a w) (Lib.hid fun _ _ h1 h2 => ⟨h1, h2⟩)
    unfold wpList at this
    rw [if_pos (show Region.wanted (bare o) (yielded [bare o].toArray a.tmps) = true from rfl)] at this
    refine ⟨o, ho, ?_⟩
    unfold wpDo
    rw [if_pos hw]
    rcases this with h1 | ⟨h1, h2⟩
    · exact .inl (wp_then h1)
    · exact .inr ⟨h1, h2⟩
  · refine ⟨o, ho, ?_⟩
    unfold wpDo
    rw [if_neg (by simp [hw])]
    exact ⟨hS, hk⟩
  · exact ⟨h1, h2⟩
end
end Go.Bw
/-
  Lots: lists of Booleans and numbers that a call makes; is a number below 0 among some? Condition: at most 1000.
-/
set_option linter.unusedVariables false
namespace Go.Proofs.Ytkdimgghljklmaa
open Go.RowKit Go.Bw
theorem bool_info : (Try.prog.info? 4).map (fun i => (i.zero, i.size, i.bytes)) = some (some (.bool false), 1, 1) := by kernel_rfl
theorem int_info : (Try.prog.info? 3).map (fun i => (i.zero, i.size, i.bytes)) = some (some (.int .i64 0), 1, 8) := by kernel_rfl
theorem mk_bools (n : Nat) (hn : n ≤ 1000) (w : World) : (Instr.makeSlice 64 (.int .i64 n) (.int .i64 n)).run Try.prog w = .ok (.slice (some ⟨w.heap.size, 0, none⟩) n n) (w.alloc (.cells (madeCells #[.bool false] n) 4)) := by
  obtain ⟨i, hi, hz0, hz1, hz2⟩ := info_parts bool_info
  have := run_makeSlice (P := Try.prog) w 64 4 i (.bool false) (by kernel_rfl) hi hz0 .i64 .i64 n n (by omega) (by omega) (by simp [hz1]; omega) (by simp [hz2]; omega) (by omega)
  simpa [hz1, Value.cells] using this
theorem mk_ints (n : Nat) (hn : n ≤ 1000) (w : World) : (Instr.makeSlice 22 (.int .i64 n) (.int .i64 n)).run Try.prog w = .ok (.slice (some ⟨w.heap.size, 0, none⟩) n n) (w.alloc (.cells (madeCells #[.int .i64 0] n) 3)) := by
  obtain ⟨i, hi, hz0, hz1, hz2⟩ := info_parts int_info
  have := run_makeSlice (P := Try.prog) w 22 3 i (.int .i64 0) (by kernel_rfl) hi hz0 .i64 .i64 n n (by omega) (by omega) (by simp [hz1]; omega) (by simp [hz2]; omega) (by omega)
  simpa [hz1, Value.cells] using this
theorem made_list (z : Value) (n : Nat) : (madeCells #[z] n).toList = List.replicate n z := by
  apply List.ext_getElem
  · simp [size_madeCells]
  · intro i h1 h2
    simp [madeCells, Nat.mod_one]
theorem owns_made (w : World) (base e : TypeId) (z : Value) (n : Nat) (hn : n ≤ 1000) (hb : base ≤ w.heap.size) : (w.alloc (.cells (madeCells #[z] n) e)).ownsRow base e 1 (.slice (some ⟨w.heap.size, 0, none⟩) n n) n (List.replicate n z) := by
  have h := owns_lit w base e (madeCells #[z] n) n (by omega) (size_madeCells _ _) hb
  rwa [made_list] at h
theorem takenC_nil (n : Nat) : takenC n [] = List.replicate n (.bool false) := by
  unfold takenC
  apply List.ext_getElem
  · simp
  · intro i h1 h2
    simp
/-- One more has a place. -/
theorem takenC_set (n : Nat) (h : List Nat) (j : Nat) (hj : j < n) : (takenC n h).set j (.bool true) = takenC n (h ++ [j]) := by
  unfold takenC
  apply List.ext_getElem
  · simp
  · intro i h1 h2
    by_cases hij : j = i
    · subst hij; simp
    · rw [List.getElem_set_ne hij]
      simp [Ne.symm hij]

set_option maxRecDepth 100000 in
set_option maxHeartbeats 1000000 in
theorem neg_one (x : Int) (w : World) : Calls Try.prog 37 #[.int .i64 x] w fun e w' => e = .returned (.bool (decide (x < 0))) ∧ w = w' := by
  go_enter Try.func37, Try.ntmps37
  go_wp2_with fail
  go_ret
  exact ⟨rfl, rfl⟩
theorem lotAt_none (l : List Int) (h : ∀ j : Int, 0 ≤ j → j < l.length → 0 ≤ geti l j) : lotAt l = false := by
  unfold lotAt
  rw [List.any_eq_false]
  intro x hx
  obtain ⟨i, hi, rfl⟩ := List.getElem_of_mem hx
  have := h i (by omega) (by omega)
  simp [geti, hi] at this
  simp; omega
theorem lotAt_some (l : List Int) (j : Int) (h0 : 0 ≤ j) (h1 : j < l.length) (h : geti l j < 0) : lotAt l = true := by
  unfold lotAt
  rw [List.any_eq_true]
  have e : geti l j = l[j.toNat]'(by omega) := by simp [geti, show j.toNat < l.length by omega]
  exact ⟨_, List.getElem_mem _, by rw [← e]; simp [h]⟩
set_option maxRecDepth 100000 in
set_option maxHeartbeats 1000000 in
theorem idx_neg (v : Value) (n : Nat) (l : List Int) (base : Nat) (w : World) (h : Row w base 1 v n (l.map (.int .i64))) (hn : n ≤ 1000) :
    Calls Try.prog 73 #[v, .func (.func 37) #[] #[]] w fun e w' => ∃ r : Int, e = .returned (.int .i64 r) ∧ (decide (0 ≤ r) = lotAt l) ∧ w = w' := by
  obtain ⟨hl, hc⟩ := h.ints
  obtain ⟨p, c, hv⟩ := h.shape
  clear h
  subst hv
  have HL := Lib.hid hl
  go_enter Try.func73, Try.ntmps73
  clear hl
  go_wp2_with fail
  go_loop [8] (fun i => ∃ k : Int, 0 ≤ k ∧ k ≤ n ∧ i = .int .i64 k ∧ Hid (∀ j : Int, 0 ≤ j → j < k → 0 ≤ geti l j)) (fun i => n - (intOf i).toNat)
  case atStart => exact ⟨0, by omega, by omega, rfl, Lib.hid fun j h0 h1 => by omega⟩
  case round =>
    obtain ⟨k, hk0, hk1, rfl, hz⟩ := hrel
    by_cases hlt : k < n
    · rcases hc with ⟨hv, h0⟩ | ⟨b, off, cap, hv, _, hbs, hnc, hcm, hcell⟩
      · omega
      simp only [Value.slice.injEq] at hv
      obtain ⟨rfl, _, rfl⟩ := hv
      have c1 := hcell k hk0 hlt
      clear hcell
      have H1 := Lib.hid (neg_one (geti l k) w)
      by_cases hx : geti l k < 0
      · have HA := Lib.hid (lotAt_some l k hk0 (by rw [HL.out]; exact hlt) hx)
        rw [show decide (geti l k < 0) = true by simp [hx]] at H1
        clear hx
        generalize geti l k = x at *
        go_wp2_with (go_at_call 37; refine H1.out.mono ?_; rintro e w1 ⟨rfl, rfl⟩)
        go_ret
        exact ⟨k, rfl, by rw [HA.out]; simp [hk0], rfl⟩
      · have HZ := Lib.hid (show ∀ j : Int, 0 ≤ j → j < k + 1 → 0 ≤ geti l j from fun j h0 h1 => by
          by_cases hj : j = k
          · rw [hj]; omega
          · exact hz.out j h0 (by omega))
        rw [show decide (geti l k < 0) = false by simp; omega] at H1
        clear hx
        generalize geti l k = x at *
        go_wp2_with (go_at_call 37; refine H1.out.mono ?_; rintro e w1 ⟨rfl, rfl⟩)
        go_round
        case rel => exact ⟨k + 1, by omega, by omega, rfl, HZ⟩
        case measure => simp [intOf]; omega
    · have HE := Lib.hid (lotAt_none l fun j h0 h1 => hz.out j h0 (by have := HL.out; omega))
      clear hc
      go_wp2_with fail
      go_ret
      exact ⟨-1, rfl, by rw [HE.out]; decide, rfl⟩
set_option maxRecDepth 100000 in
set_option maxHeartbeats 1000000 in
theorem any_neg (v : Value) (n : Nat) (l : List Int) (base : Nat) (w : World) (h : Row w base 1 v n (l.map (.int .i64))) (hn : n ≤ 1000) :
    Calls Try.prog 36 #[v, .func (.func 37) #[] #[]] w fun e w' => e = .returned (.bool (lotAt l)) ∧ w = w' := by
  have H1 := Lib.hid (idx_neg v n l base w h hn)
  obtain ⟨p, c, hv⟩ := h.shape
  clear h
  subst hv
  go_enter Try.func36, Try.ntmps36
  go_wp2_with fail
  refine H1.out.mono ?_
  rintro e w1 ⟨r, rfl, hr, rfl⟩
  have HR := Lib.hid hr
  clear hr
  go_wp2_with fail
  go_ret
  exact ⟨ret_bool HR.out, rfl⟩
end Go.Proofs.Ytkdimgghljklmaa
/-
  Lots: who gets which place, the program's Draw. Conditions: strings are no longer than Go's; at most 1000 teams, weights and lots.
-/
set_option linter.unusedVariables false
namespace Go.Bw
open Go.RowKit
/-- Rows of different types lie in different blocks. -/
theorem own_ne {w : World} {b b' e e' sz sz' n n' : Nat} {v v' : Value} {xs xs' : List Value} (h : w.ownsRow b e sz v n xs) (h' : w.ownsRow b' e' sz' v' n' xs') (he : e ≠ e') : v.ownBlock ≠ none → v.ownBlock ≠ v'.ownBlock := by
  intro hn heq
  rcases h.2 with ⟨rfl, _⟩ | ⟨g, cap, cur, rfl, _, hg, _⟩
  · exact hn rfl
  · rcases h'.2 with ⟨rfl, _⟩ | ⟨g', cap', cur', rfl, _, hg', _⟩
    · cases heq
    · simp only [Value.ownBlock, Option.some.injEq] at heq
      subst heq
      rw [hg] at hg'
      simp only [Option.some.injEq, Obj.cells.injEq] at hg'
      exact he hg'.2.1
theorem own_app {w w' : World} {b b' e e' sz sz' n n' : Nat} {v v' : Value} {xs xs' : List Value} (h : w.ownsRow b e sz v n xs) (h' : w.ownsRow b' e' sz' v' n' xs') (he : e ≠ e') (g : w.grownBy w' v'.ownBlock) : w'.ownsRow b e sz v n xs := by
  by_cases hn : v.ownBlock = none
  · exact h.kept (row := v'.ownBlock) g (.inl hn)
  · exact h.kept g (.inr (own_ne h h' he hn))
end Go.Bw
namespace Go.Proofs.Ytkdimgghljklmaa
open Go.RowKit Go.Bw
noncomputable def drP : Code := (Try.f11.body).getD .skip
set_option maxRecDepth 100000 in
theorem fr_drP (f : Nat → Value) : frame 79 f = ⟨#[f 0, f 1, f 2, f 3, f 4, f 5, f 6, f 7, f 8, f 9, f 10, f 11, f 12, f 13, f 14, f 15, f 16, f 17, f 18, f 19, f 20, f 21, f 22, f 23, f 24, f 25, f 26, f 27, f 28, f 29, f 30, f 31, f 32, f 33, f 34, f 35, f 36, f 37, f 38, f 39, f 40, f 41, f 42, f 43, f 44, f 45, f 46, f 47, f 48, f 49, f 50, f 51, f 52, f 53, f 54, f 55, f 56, f 57, f 58, f 59, f 60, f 61, f 62, f 63, f 64, f 65, f 66, f 67, f 68, f 69, f 70, f 71, f 72, f 73, f 74, f 75, f 76, f 77, f 78], []⟩ := by rfl
theorem el_strs : Elem Try.prog 26 9 (.string ByteArray.empty) 1 16 := ⟨by kernel_rfl, by kernel_rfl, by kernel_rfl, by decide, by decide⟩
theorem namesL_snoc (ts : List ByteArray) (l : List Nat) (j : Nat) : namesL ts (l ++ [j]) = namesL ts l ++ [geta ts (j : Int)] := by simp [namesL]
theorem namesL_length (ts : List ByteArray) (l : List Nat) : (namesL ts l).length = l.length := by simp [namesL]
/-- The call's own lists: who has a place, the names so far. -/
structure Dr (w0 : World) (n : Nat) (ts : List ByteArray) (v12 v13 : Value) (H G : List Nat) (w : World) : Prop where
  bel : Below w0.heap.size w0 w
  tk : w.ownsRow w0.heap.size 4 1 v12 n (takenC n H)
  out : w.ownsRow w0.heap.size 9 1 v13 G.length (cellsOf encSt (namesL ts G))
section
variable {w0 w w' : World} {n : Nat} {ts : List ByteArray} {v12 v13 v' : Value} {H G : List Nat}
theorem Dr.below (h : Dr w0 n ts v12 v13 H G w) (b : Below w.heap.size w w') : Dr w0 n ts v12 v13 H G w' :=
  ⟨h.bel.trans (b.mono h.bel.size), owns_below h.tk b (Nat.le_refl _), owns_below h.out b (Nat.le_refl _)⟩
theorem Dr.alloc (h : Dr w0 n ts v12 v13 H G w) (o : Obj) : Dr w0 n ts v12 v13 H G (w.alloc o) := h.below ((Below.refl _ _).alloc (Nat.le_refl _) o)
theorem Dr.app (h : Dr w0 n ts v12 v13 H G w) {j : Nat} (ho : w'.ownsRow w0.heap.size 9 1 v' (G.length + 1) (cellsOf encSt (namesL ts G) ++ [.string (geta ts (j : Int))])) (g : w.grownBy w' v13.ownBlock) : Dr w0 n ts v12 v' H (G ++ [j]) w' := by
  refine ⟨h.bel.grown g h.bel.size (fun k hk => (h.out.lt k hk).1), own_app h.tk h.out (by decide) g, ?_⟩
  rw [namesL_snoc, cellsOf_snoc, List.length_append]
  exact ho
theorem Dr.store {g c : Nat} (h : Dr w0 n ts (.slice (some ⟨g, 0, none⟩) n c) v13 H G w) {j : Nat} (hj : j < n) : Dr w0 n ts (.slice (some ⟨g, 0, none⟩) n c) v13 (H ++ [j]) G (w.setCell ⟨g, j, none⟩ (.bool true)) := by
  have hg := h.tk.lt g rfl
  have gr := grown_setCell w g j (.bool true)
  refine ⟨h.bel.grown gr h.bel.size (fun k hk => by cases hk; exact hg.1), ?_, own_app h.out h.tk (by decide) gr⟩
  rw [← takenC_set n H j hj]
  obtain ⟨h1, h2⟩ := h.tk
  refine ⟨by simpa using h1, ?_⟩
  rcases h2 with ⟨h2, _⟩ | ⟨g', cap', cur, hv, hb, hgc, hn, hc, hs, ht⟩
  · cases h2
  · simp only [Value.slice.injEq, Option.some.injEq, Addr.mk.injEq] at hv
    obtain ⟨⟨rfl, _⟩, _, rfl⟩ := hv
    refine .inr ⟨g, c, cur.setIfInBounds j (.bool true), rfl, hb, ?_, hn, hc, by simpa using hs, ?_⟩
    · have hlt := (Array.getElem?_eq_some_iff.1 hgc).1
      simp only [World.setCell, Array.getElem?_modify, if_true, hgc, Option.map_some]
      rfl
    · rw [← ht, Array.toList_setIfInBounds]
      exact List.take_set.symm ▸ rfl
theorem Dr.cell {g c : Nat} (h : Dr w0 n ts (.slice (some ⟨g, 0, none⟩) n c) v13 H G w) (j : Nat) (hj : j < n) : w.cell? ⟨g, j, none⟩ = some (.bool (H.contains j)) ∧ w.frozen? ⟨g, j, none⟩ = false := by
  refine ⟨?_, ?_⟩
  · have := h.tk.cells (g := g) rfl j _ (takenC_at n H j hj)
    rw [Addr.add_lit] at this; simpa using this
  · rcases h.tk.2 with ⟨h2, _⟩ | ⟨g', cap', cur, hv, _, hgc, _⟩
    · cases h2
    · simp only [Value.slice.injEq, Option.some.injEq, Addr.mk.injEq] at hv
      obtain ⟨⟨rfl, _⟩, _, rfl⟩ := hv
      unfold World.frozen?
      rw [hgc]; simp
theorem Dr.blk (h : Dr w0 n ts v12 v13 H G w) (hn : 0 < n) : ∃ g c, v12 = .slice (some ⟨g, 0, none⟩) n c := by
  rcases h.tk.2 with ⟨_, h0⟩ | ⟨g, cap, cur, rfl, _⟩
  · omega
  · exact ⟨_, _, rfl⟩
end
/-- The data of a call. -/
structure DH (w0 : World) (vt vw vl : Value) (ts : List ByteArray) (ws lots : List Int) : Prop where
  h : WH w0 vt vw ts ws
  l : Row w0 0 1 vl lots.length (lots.map (.int .i64))
  ln : lots.length ≤ 1000
/-- Where nothing is wrong. -/
structure DG (ts : List ByteArray) (ws lots : List Int) : Prop where
  g : WGood ts ws
  nn : ∀ j : Int, 0 ≤ j → j < lots.length → 0 ≤ geti lots j
  le : lots.length ≤ ts.length
def HT (ts : List ByteArray) (ws lots : List Int) (k : Int) : List Nat := lotsH ts.length ws ws.sum (lots.take k.toNat) []
theorem HT_succ (ts : List ByteArray) (ws lots : List Int) (k : Int) (h0 : 0 ≤ k) (h1 : k < lots.length) : HT ts ws lots (k + 1) = HT ts ws lots k ++ [nxt ts.length (HT ts ws lots k) (drawnF ws (geti lots k % ws.sum))] := by
  unfold HT
  rw [show (k + 1).toNat = k.toNat + 1 by omega, List.take_succ_eq_append_getElem (by omega), lotsH_snoc]
  simp [geti, show k.toNat < lots.length by omega]
theorem HT_len (ts : List ByteArray) (ws lots : List Int) (k : Int) (h0 : 0 ≤ k) (h1 : k ≤ lots.length) : ((HT ts ws lots k).length : Int) = k := by
  unfold HT
  rw [lotsH_length, List.length_take]
  simp; omega
theorem DG.pos {ts : List ByteArray} {ws lots : List Int} (d : DG ts ws lots) : 0 < ws.sum ∧ ws.sum ≤ 14000 := by
  have := sum_ge ws d.g.lo
  have := d.g.len
  have := d.g.n1
  have := d.g.n14
  omega
theorem DG.have {ts : List ByteArray} {ws lots : List Int} (d : DG ts ws lots) (k : Int) (h0 : 0 ≤ k) (h1 : k ≤ lots.length) : Have ts.length (HT ts ws lots k) :=
  lotsH_have d.g.len rfl d.pos.1 _ _ (Have.nil _) (by simp; have := d.le; omega)
theorem DG.drawn {ts : List ByteArray} {ws lots : List Int} (d : DG ts ws lots) (x : Int) : drawnF ws (x % ws.sum) < ts.length := by
  have hp := d.pos.1
  rw [← d.g.len]
  exact drawnF_lt ws _ (Int.emod_lt_of_pos _ hp) (Int.emod_nonneg _ (by omega))
set_option maxRecDepth 100000 in
set_option maxHeartbeats 1000000 in
theorem dr12 (w0 : World) (vt vw vl : Value) (ts : List ByteArray) (ws lots : List Int) (h : DH w0 vt vw vl ts ws lots) (d : DG ts ws lots) (v12 : Value) (k : Int) : T3 Try.prog (fun a w => ∃ (v13 : Value), (0 ≤ k ∧ k < lots.length) ∧ (Dr w0 ts.length ts v12 v13 (HT ts ws lots k) (HT ts ws lots k) w) ∧ Fr 79 [(0, vt), (1, vw), (11, .int .i64 ws.sum), (12, v12), (13, v13), (37, vl), (38, .int .i64 lots.length), (39, .int .i64 k)] a) (sel [1, 1, 1, 1, 1, 1, 0, 1, 4, 4, 1, 1, 0, 4, 0] drP) (fun a w => ∃ (v13 : Value), (0 ≤ k ∧ k < lots.length) ∧ (Dr w0 ts.length ts v12 v13 (HT ts ws lots k) (HT ts ws lots k) w) ∧ Fr 79 [(0, vt), (1, vw), (11, .int .i64 ws.sum), (12, v12), (13, v13), (15, .int .i64 (geti lots k)), (37, vl), (38, .int .i64 lots.length), (39, .int .i64 k)] a) No 9 No := by
  refine T3.leaf ?_
  rintro Q JS JX JT K hS hK hX hE hT hR a w ⟨v13, hpre, hW, ⟨fr, rfl, q0, q1, q11, q12, q13, q37, q38, q39, _⟩⟩
  obtain ⟨hk0, hk1⟩ := hpre
  obtain ⟨_, hcs⟩ := (h.l.below hW.bel).ints
  rcases hcs with ⟨rfl, h0⟩ | ⟨bz, off, cap, rfl, _, hbz, hnc, hcm, hcell⟩
  · omega
  have t0 := hcell k hk0 hk1
  clear hcell
  rw [fr_drP, show fr 0 = _ from q0, show fr 1 = _ from q1, show fr 11 = _ from q11, show fr 12 = _ from q12, show fr 13 = _ from q13, show fr 37 = _ from q37, show fr 38 = _ from q38, show fr 39 = _ from q39]
  clear q0 q1 q11 q12 q13 q37 q38 q39
  conv => arg 2; whnf
  go_wp2_with fail
  refine Met.intro (hS _ _ ?_)
  exact ⟨v13, ⟨hk0, hk1⟩, hW, Fr.of _ rfl ⟨rfl, rfl, rfl, rfl, rfl, rfl, rfl, rfl, rfl, trivial⟩⟩

set_option maxRecDepth 100000 in
set_option maxHeartbeats 1000000 in
theorem dr13 (w0 : World) (vt vw vl : Value) (ts : List ByteArray) (ws lots : List Int) (h : DH w0 vt vw vl ts ws lots) (d : DG ts ws lots) (v12 : Value) (k : Int) : T3 Try.prog (fun a w => ∃ (v13 : Value), (0 ≤ k ∧ k < lots.length) ∧ (Dr w0 ts.length ts v12 v13 (HT ts ws lots k) (HT ts ws lots k) w) ∧ Fr 79 [(0, vt), (1, vw), (11, .int .i64 ws.sum), (12, v12), (13, v13), (15, .int .i64 (geti lots k)), (37, vl), (38, .int .i64 lots.length), (39, .int .i64 k)] a) (sel [1, 1, 1, 1, 1, 1, 0, 1, 4, 4, 1, 1, 0, 4, 1, 0] drP) (fun a w => ∃ (v13 : Value), (0 ≤ k ∧ k < lots.length) ∧ (Dr w0 ts.length ts v12 v13 (HT ts ws lots k) (HT ts ws lots k) w) ∧ Fr 79 [(0, vt), (1, vw), (11, .int .i64 ws.sum), (12, v12), (13, v13), (16, .int .i64 (nxt ts.length (HT ts ws lots k) (drawnF ws (geti lots k % ws.sum)) : Nat)), (37, vl), (38, .int .i64 lots.length), (39, .int .i64 k)] a) No 9 No := by
  refine T3.leaf ?_
  rintro Q JS JX JT K hS hK hX hE hT hR a w ⟨v13, hpre, hW, ⟨fr, rfl, q0, q1, q11, q12, q13, q15, q37, q38, q39, _⟩⟩
  obtain ⟨hk0, hk1⟩ := hpre
  have hp := d.pos
  have hx := d.nn k hk0 hk1
  have hlen := HT_len ts ws lots k hk0 (by omega)
  have hle := d.le
  have HD := Lib.hid (fun w (hr : Row w 0 1 vw ws.length (ws.map (.int .i64))) => drawn_prog vw ws.length ws (geti lots k % ws.sum) 0 w hr d.g.lo (by have := d.g.len; have := d.g.n14; omega) (Int.emod_nonneg _ (by omega)) (Int.emod_lt_of_pos _ hp.1))
  have HF := Lib.hid (free_prog w v12 ts.length (HT ts ws lots k) (drawnF ws (geti lots k % ws.sum)) w0.heap.size (Row.of_owns hW.tk) h.h.tn (d.have k hk0 (by omega)) (by omega) (d.drawn _))
  have HR := Lib.hid (h.h.w.below hW.bel)
  obtain ⟨p1, c1, hv1⟩ := h.h.w.shape
  subst hv1
  have hn0 : ¬ (ws.sum = 0) := by omega
  have hm0 := Int.emod_nonneg (geti lots k) (show ws.sum ≠ 0 by omega)
  have hm1 := Int.emod_lt_of_pos (geti lots k) hp.1
  have hr1 : Int.tmod (geti lots k) ws.sum = geti lots k % ws.sum := Int.tmod_eq_emod_of_nonneg hx
  have hr2 : IntKind.i64.wrap (geti lots k % ws.sum) = geti lots k % ws.sum := IntWalk.i64_in _ (by omega)
  generalize hNX : nxt ts.length (HT ts ws lots k) (drawnF ws (geti lots k % ws.sum)) = nx at *
  generalize drawnF ws (geti lots k % ws.sum) = dn at *
  have HNX := Lib.hid hNX
  clear hNX
  generalize geti lots k % ws.sum = y at *
  generalize geti lots k = x at *
  generalize ws.sum = sm at *
  rw [fr_drP, show fr 0 = _ from q0, show fr 1 = _ from q1, show fr 11 = _ from q11, show fr 12 = _ from q12, show fr 13 = _ from q13, show fr 15 = _ from q15, show fr 37 = _ from q37, show fr 38 = _ from q38, show fr 39 = _ from q39]
  clear q0 q1 q11 q12 q13 q15 q37 q38 q39
  conv => arg 2; whnf
  go_wp2_with fail
  refine (HD.out w HR.out).mono ?_
  rintro e w1 ⟨rfl, rfl⟩
  go_wp2_with fail
  refine HF.out.mono ?_
  rintro e w1 ⟨rfl, rfl⟩
  go_wp2_with fail
  refine Met.intro (hS _ _ ?_)
  exact ⟨v13, ⟨hk0, hk1⟩, hW, Fr.of _ rfl ⟨rfl, rfl, rfl, rfl, rfl, rfl, rfl, rfl, rfl, trivial⟩⟩

set_option maxRecDepth 100000 in
set_option maxHeartbeats 1000000 in
theorem dr14 (w0 : World) (vt vw vl : Value) (ts : List ByteArray) (ws lots : List Int) (h : DH w0 vt vw vl ts ws lots) (d : DG ts ws lots) (v12 : Value) (k : Int) : T3 Try.prog (fun a w => ∃ (v13 : Value), (0 ≤ k ∧ k < lots.length) ∧ (Dr w0 ts.length ts v12 v13 (HT ts ws lots k) (HT ts ws lots k) w) ∧ Fr 79 [(0, vt), (1, vw), (11, .int .i64 ws.sum), (12, v12), (13, v13), (16, .int .i64 (nxt ts.length (HT ts ws lots k) (drawnF ws (geti lots k % ws.sum)) : Nat)), (37, vl), (38, .int .i64 lots.length), (39, .int .i64 k)] a) (sel [1, 1, 1, 1, 1, 1, 0, 1, 4, 4, 1, 1, 0, 4, 1, 1, 0] drP) (fun a w => ∃ (v13 : Value), (0 ≤ k ∧ k < lots.length) ∧ (Dr w0 ts.length ts v12 v13 (HT ts ws lots (k + 1)) (HT ts ws lots k) w) ∧ Fr 79 [(0, vt), (1, vw), (11, .int .i64 ws.sum), (12, v12), (13, v13), (16, .int .i64 (nxt ts.length (HT ts ws lots k) (drawnF ws (geti lots k % ws.sum)) : Nat)), (37, vl), (38, .int .i64 lots.length), (39, .int .i64 k)] a) No 9 No := by
  refine T3.leaf ?_
  rintro Q JS JX JT K hS hK hX hE hT hR a w ⟨v13, hpre, hW, ⟨fr, rfl, q0, q1, q11, q12, q13, q16, q37, q38, q39, _⟩⟩
  obtain ⟨hk0, hk1⟩ := hpre
  have hlen := HT_len ts ws lots k hk0 (by omega)
  have hle := d.le
  have hn1 := d.g.n1
  have hnx := (nxt_free (d.have k hk0 (by omega)) (by omega) (d.drawn (geti lots k))).2
  have Hs := Lib.hid (HT_succ ts ws lots k hk0 hk1)
  obtain ⟨g, c, hv12⟩ := hW.blk (by omega)
  subst hv12
  obtain ⟨hc, hf⟩ := hW.cell _ hnx
  have HS := Lib.hid (hW.store hnx)
  clear hW
  generalize nxt ts.length (HT ts ws lots k) (drawnF ws (geti lots k % ws.sum)) = nx at *
  have hnn : (nx : Int).toNat = nx := by omega
  rw [fr_drP, show fr 0 = _ from q0, show fr 1 = _ from q1, show fr 11 = _ from q11, show fr 12 = _ from q12, show fr 13 = _ from q13, show fr 16 = _ from q16, show fr 37 = _ from q37, show fr 38 = _ from q38, show fr 39 = _ from q39]
  clear q0 q1 q11 q12 q13 q16 q37 q38 q39
  conv => arg 2; whnf
  go_wp2_with fail
  refine Met.intro (hS _ _ ?_)
  exact ⟨v13, ⟨hk0, hk1⟩, (by rw [Hs.out]; exact HS.out), Fr.of _ rfl ⟨rfl, rfl, rfl, rfl, rfl, rfl, rfl, rfl, rfl, trivial⟩⟩

set_option maxRecDepth 100000 in
set_option maxHeartbeats 1000000 in
theorem dr15 (w0 : World) (vt vw vl : Value) (ts : List ByteArray) (ws lots : List Int) (h : DH w0 vt vw vl ts ws lots) (d : DG ts ws lots) (v12 : Value) (k : Int) : T3 Try.prog (fun a w => ∃ (v13 : Value), (0 ≤ k ∧ k < lots.length) ∧ (Dr w0 ts.length ts v12 v13 (HT ts ws lots (k + 1)) (HT ts ws lots k) w) ∧ Fr 79 [(0, vt), (1, vw), (11, .int .i64 ws.sum), (12, v12), (13, v13), (16, .int .i64 (nxt ts.length (HT ts ws lots k) (drawnF ws (geti lots k % ws.sum)) : Nat)), (37, vl), (38, .int .i64 lots.length), (39, .int .i64 k)] a) (sel [1, 1, 1, 1, 1, 1, 0, 1, 4, 4, 1, 1, 0, 4, 1, 1, 1] drP) (fun a w => ∃ (v13 : Value), (0 ≤ k ∧ k < lots.length) ∧ (Dr w0 ts.length ts v12 v13 (HT ts ws lots (k + 1)) (HT ts ws lots (k + 1)) w) ∧ Fr 79 [(0, vt), (1, vw), (11, .int .i64 ws.sum), (12, v12), (13, v13), (37, vl), (38, .int .i64 lots.length), (39, .int .i64 k)] a) No 9 No := by
  refine T3.leaf ?_
  rintro Q JS JX JT K hS hK hX hE hT hR a w ⟨v13, hpre, hW, ⟨fr, rfl, q0, q1, q11, q12, q13, q16, q37, q38, q39, _⟩⟩
  obtain ⟨hk0, hk1⟩ := hpre
  have hlen := HT_len ts ws lots k hk0 (by omega)
  have hle := d.le
  have hn1 := d.g.n1
  have hnx := (nxt_free (d.have k hk0 (by omega)) (by omega) (d.drawn (geti lots k))).2
  have Hs := Lib.hid (HT_succ ts ws lots k hk0 hk1)
  obtain ⟨_, hcs⟩ := (h.h.t.below hW.bel).els encSt_length (by decide)
  rcases hcs with ⟨rfl, h0⟩ | ⟨bz, off, cap, rfl, _, hbz, hnc, hcm, hcell⟩
  · omega
  have t0 := hcell (nxt ts.length (HT ts ws lots k) (drawnF ws (geti lots k % ws.sum)) : Nat) (by omega) (by omega) 0 _ rfl
  rw [Nat.mul_one, Nat.add_zero, Int.toNat_natCast] at t0
  clear hcell
  obtain ⟨p9, c9, hv9⟩ := (Row.of_owns hW.out).shape
  subst hv9
  have hE := el_strs
  have hln := h.ln
  have hbs := hW.bel.size
  have HA := Lib.hid (fun w' v' => Dr.app (w' := w') (v' := v') (j := nxt ts.length (HT ts ws lots k) (drawnF ws (geti lots k % ws.sum))) (hW.alloc (.cells #[.string (geta ts (nxt ts.length (HT ts ws lots k) (drawnF ws (geti lots k % ws.sum)) : Nat))] 9)))
  generalize hHH : HT ts ws lots (k + 1) = HH at *
  generalize hHK : HT ts ws lots k = HK0 at *
  generalize nxt ts.length HK0 (drawnF ws (geti lots k % ws.sum)) = nx at *
  generalize geta ts (nx : Int) = nm at *
  have HH1 := Lib.hid hHH
  have HH2 := Lib.hid hHK
  clear hHH hHK
  rw [fr_drP, show fr 0 = _ from q0, show fr 1 = _ from q1, show fr 11 = _ from q11, show fr 12 = _ from q12, show fr 13 = _ from q13, show fr 16 = _ from q16, show fr 37 = _ from q37, show fr 38 = _ from q38, show fr 39 = _ from q39]
  clear q0 q1 q11 q12 q13 q16 q37 q38 q39
  conv => arg 2; whnf
  go_wp2_with (at_builtin; refine app_law rfl _ _ _ rfl hE (hW.out.alloc _) rfl [.string nm] rfl rfl (cells_new w #[_] _) (by simp [Value.oneCell']) (by omega) (by simp; omega) ?_; intro v' w3 hown3 hgr)
  refine Met.intro (hS _ _ ?_)
  have := HA.out w3 v' hown3 hgr
  rw [← Hs.out] at this
  exact ⟨v', ⟨hk0, hk1⟩, this, Fr.of _ rfl ⟨rfl, rfl, rfl, rfl, rfl, rfl, rfl, rfl, trivial⟩⟩

end Go.Proofs.Ytkdimgghljklmaa
/-
  As the schedules for regions that draw their order; here whatever holds of the worlds between may be said freely. No condition on a program.
-/
set_option linter.unusedVariables false
namespace Go.Bw
open Go.RowKit
open Classical in
/-- The worlds of which S holds. -/
noncomputable def wofS (w₁ : World) (S : World → Prop) (i : World) : World := if S i then i else w₁
theorem wofS_of {w₁ i : World} {S : World → Prop} (h : S i) : wofS w₁ S i = i := by unfold wofS; rw [if_pos h]
theorem wofS_S {w₁ : World} {S : World → Prop} (h : S w₁) (i : World) : S (wofS w₁ S i) := by
  unfold wofS
  split
  · assumption
  · exact h
/-- The same value in every world of which S holds, and nothing else. -/
def Oper.heldS (P : Program) (w₁ : World) (S : World → Prop) (o : Oper) (a : Act) (next : Act → Prop) : Prop :=
  ∃ v, (∀ i, (execOp a.eval o).run P (wofS w₁ S i) = .ok (.value v) (wofS w₁ S i)) ∧ next (a.put o.dst v)
attribute [go_sem] Oper.heldS
section
variable {P : Program} {Q : Exit → Act → World → Prop} {S : World → Prop}
theorem wp_region_schS {id : Nat} {a : Act} {w : World} {l : List Oper} (S : World → Prop) (c : Sch) (hm : P.follows .mixedOrders = true)
    (hB : (Region.noSelect l.toArray && schB .any l.toArray c (Array.replicate l.length false) && decide (c.len = l.length)) = true)
    (hQ : ∀ c a d v w, Q (.panic c) (Act.put a d v) w → Q (.panic c) a w) (hS : S w.drew)
    (h : wpSch P l Q S c a w.drew) : (Code.region id l.toArray true).wp P Q a w := by
  simp only [Bool.and_eq_true, decide_eq_true_eq] at hB
  obtain ⟨⟨hs, hc⟩, hlen⟩ := hB
  refine wp_region_held hm (S := S) ?_
  have := sch_H hs hQ c (Array.replicate l.length false) a w.drew hc hS h
  rw [hlen] at this
  simpa using this
theorem sch_hideS {w₁ : World} {l : List Oper} {c : Sch} {a : Act} {w : World}
    (h : ∀ W : Sch → Act → World → Prop,
      Hid (∀ i o r a w, l[i]? = some o → (∀ K : Act → Prop, (∀ a, W r a w → K a) → if Region.wanted o (yielded l.toArray a.tmps) then Oper.heldS P w₁ S o a K else K (a.put o.dst undef)) → W (.calm i r) a w) →
      Hid (∀ i o r a w, l[i]? = some o → Region.wanted o (yielded l.toArray a.tmps) = true → (∀ K : Act → World → Prop, Hid (∀ a w, S w → W r a w → K a w) → wpList P [bare o].toArray (Exit.then K Q) [bare o] a w) → W (.one i r) a w) →
      Hid (∀ i j r s a w, W (.one i r) a w → W (.one j s) a w → W (.two i j r s) a w) →
      Hid (∀ a w, Q .normal a w → W .done a w) → W c a w) : wpSch P l Q S c a w := by
  refine h (wpSch P l Q S) (Lib.hid fun i o r a w ho hk => ?_) (Lib.hid fun i o r a w ho hw hk => ?_) (Lib.hid fun i j r s a w h1 h2 => ?_) (Lib.hid fun a w hk => hk)
  · have := hk _ (fun _ h => h)
    refine ⟨o, ho, ?_⟩
    split at this
    · rename_i hw
      obtain ⟨v, hv, hn⟩ := this
      exact ⟨v, .inl ⟨hw, fun w' hw' => by have := hv w'; rwa [wofS_of hw'] at this⟩, hn⟩
    · rename_i hw
      exact ⟨undef, .inr ⟨by simpa using hw, rfl⟩, this⟩
  · have := hk (fun a w => S w ∧ wpSch P l Q S r a w) (Lib.hid fun _ _ h1 h2 => ⟨h1, h2⟩)
    unfold wpList at this
    rw [if_pos (show Region.wanted (bare o) (yielded [bare o].toArray a.tmps) = true from rfl)] at this
    refine ⟨o, ho, ?_⟩
    unfold wpDo
    rw [if_pos hw]
    rcases this with h1 | ⟨h1, h2⟩
    · exact .inl (wp_then h1)
    · exact .inr ⟨h1, h2⟩
  · exact ⟨h1, h2⟩
end
/-- A block of one cell behind growth elsewhere. -/
theorem tmp_kept {w w' : World} {g : Nat} {x : Value} {row : Option Nat} (hc : w.cell? ⟨g, 0, none⟩ = some x) (gr : w.grownBy w' row) (hne : row ≠ some g) : w'.cell? ⟨g, 0, none⟩ = some x :=
  (World.cell?_of_block (a := ⟨g, 0, none⟩) (gr.block g (World.block_lt_of_cell? w _ hc) (fun e => hne e.symm))).trans hc
theorem news_one {w : World} {g : Nat} {x : Value} (hc : w.cell? ⟨g, 0, none⟩ = some x) : ∀ j u, [x][j]? = some u → w.cell? ⟨g, j, none⟩ = some u := by
  intro j u hj
  match j, hj with
  | 0, hj =>
    simp at hj
    subst hj
    exact hc
theorem cell_pastM {w : World} {a : Addr} {v : Value} (h : w.cell? a = some v) (o : Obj) : (w.alloc o).cell? a = some v :=
  (((Below.refl w.heap.size w).alloc (Nat.le_refl _) o).cell (World.block_lt_of_cell? w _ h)).trans h
end Go.Bw
