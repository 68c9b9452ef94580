/-
  Contracts and lemmas towards the statement, of several parts; each part says ahead of it what it holds and under which conditions.
-/
import Derived.Test.YtkdimgghljklmaaMg3
import Derived.Test.YtkdimgghljklmaaMg4
import Derived.Test.YtkdimgghljklmaaMg1
import Derived.Test.YtkdimgghljklmaaMg2
import Derived.IntWalk
import Derived.WalkLawsBesides
/-
  Lots: how far a team can fall, the reference's look at all ways. Conditions: at most 7 teams; at most 4 places.
-/
set_option linter.unusedVariables false
namespace Go.Proofs.Ytkdimgghljklmaa
open Go.RowKit Go.Bw
noncomputable def faR : Code := (Try.f21.body).getD .skip
set_option maxRecDepth 100000 in
theorem fr_faR (f : Nat → Value) : frame 56 f = ⟨#[f 0, f 1, f 2, f 3, f 4, f 5, f 6, f 7, f 8, f 9, f 10, f 11, f 12, f 13, f 14, f 15, f 16, f 17, f 18, f 19, f 20, f 21, f 22, f 23, f 24, f 25, f 26, f 27, f 28, f 29, f 30, f 31, f 32, f 33, f 34, f 35, f 36, f 37, f 38, f 39, f 40, f 41, f 42, f 43, f 44, f 45, f 46, f 47, f 48, f 49, f 50, f 51, f 52, f 53, f 54, f 55], []⟩ := by rfl
theorem and_one_all : ∀ x : Fin 128, bits BinOp.and IntKind.i64 (x.val : Int) 1 = ((x.val % 2 : Nat) : Int) := by decide +kernel
/-- Bit i of m, as the walk meets it. -/
def bitI (m i : Int) : Int := (bitN m.toNat i.toNat : Nat)
theorem bit_walk (m i : Int) (m0 : 0 ≤ m) (m1 : m < 128) (i0 : 0 ≤ i) : bits BinOp.and IntKind.i64 (m / 2 ^ i.toNat) 1 = bitI m i := by
  have e : m / 2 ^ i.toNat = ((m.toNat / 2 ^ i.toNat : Nat) : Int) := by
    rw [Int.natCast_ediv, Int.natCast_pow]
    congr 1
    omega
  have hlt : m.toNat / 2 ^ i.toNat < 128 := Nat.lt_of_le_of_lt (Nat.div_le_self _ _) (by omega)
  rw [e]
  exact and_one_all ⟨_, hlt⟩
theorem bitI_01 (m i : Int) : 0 ≤ bitI m i ∧ bitI m i ≤ 1 := by
  unfold bitI bitN
  omega
def popI (m i : Int) : Int := (popTo m.toNat i.toNat : Nat)
theorem popI_succ (m i : Int) (h : 0 ≤ i) : popI m (i + 1) = popI m i + bitI m i := by
  unfold popI bitI
  rw [show (i + 1).toNat = i.toNat + 1 by omega, popTo]
  omega
theorem popI_le (m i : Int) (h : 0 ≤ i) : 0 ≤ popI m i ∧ popI m i ≤ i := by
  obtain ⟨j, rfl⟩ := Int.eq_ofNat_of_zero_le h
  induction j with
  | zero => simp [popI, popTo]
  | succ j ih =>
    have := popI_succ m j (by omega)
    have := bitI_01 m j
    have := ih (by omega)
    rw [show ((j + 1 : Nat) : Int) = (j : Int) + 1 by omega]
    omega
def zerI (m i : Int) : Int := (zerosTo m.toNat i.toNat : Nat)
theorem zerI_succ (m i : Int) (h : 0 ≤ i) : zerI m (i + 1) = zerI m i + (1 - bitI m i) := by
  have := bitI_01 m i
  unfold zerI bitI at *
  rw [show (i + 1).toNat = i.toNat + 1 by omega, zerosTo]
  omega
theorem zerI_le (m i : Int) (h : 0 ≤ i) : 0 ≤ zerI m i ∧ zerI m i ≤ i := by
  obtain ⟨j, rfl⟩ := Int.eq_ofNat_of_zero_le h
  induction j with
  | zero => simp [zerI, zerosTo]
  | succ j ih =>
    have := zerI_succ m j (by omega)
    have := bitI_01 m j
    have := ih (by omega)
    rw [show ((j + 1 : Nat) : Int) = (j : Int) + 1 by omega]
    omega
def falI (top m most i : Int) : Int := fallTo top m.toNat most i.toNat
theorem falI_succ (top m most i : Int) (h : 0 ≤ i) : falI top m most (i + 1) = if bitI m i = 0 then max (falI top m most i) (top + zerI m i - i) else falI top m most i := by
  unfold falI zerI bitI
  rw [show (i + 1).toNat = i.toNat + 1 by omega, fallTo]
  have : ((i.toNat : Nat) : Int) = i := by omega
  rw [this]
  by_cases hb : bitN m.toNat i.toNat = 0 <;> simp [hb]
def mosI (n : Nat) (top m : Int) : Int := mostTo n top m.toNat
theorem mosI_succ (n : Nat) (top m : Int) (h : 0 ≤ m) : mosI n top (m + 1) = if popI m n = top then falI top m (mosI n top m) n else mosI n top m := by
  unfold mosI popI falI
  rw [show (m + 1).toNat = m.toNat + 1 by omega, mostTo]
  simp
theorem falI_le (top m most i : Int) (h : 0 ≤ i) (h0 : 0 ≤ most) (h1 : most ≤ 1000) (t0 : 0 ≤ top) (t1 : top ≤ 4) : 0 ≤ falI top m most i ∧ falI top m most i ≤ 1000 := by
  obtain ⟨j, rfl⟩ := Int.eq_ofNat_of_zero_le h
  induction j with
  | zero => simp [falI, fallTo]; omega
  | succ j ih =>
    have := falI_succ top m most j (by omega)
    have := zerI_le m j (by omega)
    have := ih (by omega)
    rw [show ((j + 1 : Nat) : Int) = (j : Int) + 1 by omega]
    split at * <;> omega
theorem mosI_le (n : Nat) (top m : Int) (h : 0 ≤ m) (t0 : 0 ≤ top) (t1 : top ≤ 4) : 0 ≤ mosI n top m ∧ mosI n top m ≤ 1000 := by
  obtain ⟨j, rfl⟩ := Int.eq_ofNat_of_zero_le h
  induction j with
  | zero => simp [mosI, mostTo]
  | succ j ih =>
    have h1 := mosI_succ n top j (by omega)
    have h2 := ih (by omega)
    have h3 := falI_le top j (mosI n top j) n (by omega) h2.1 h2.2 t0 t1
    rw [show ((j + 1 : Nat) : Int) = (j : Int) + 1 by omega, h1]
    split <;> omega
/-- What is known of the call. -/
structure FaH (n : Nat) (top : Int) : Prop where
  n1 : 1 ≤ n
  n7 : n ≤ 7
  t0 : 0 ≤ top
  t4 : top ≤ 4
/-- How many ways there are. -/
structure Pow2 (n : Nat) (N : Int) : Prop where
  e : N = 2 ^ n
  lo : 1 ≤ N
  hi : N ≤ 128
theorem Pow2.of {n : Nat} (h : n ≤ 7) : Pow2 n (2 ^ n) := by
  have : ∀ j : Fin 8, 1 ≤ (2 : Int) ^ j.val ∧ (2 : Int) ^ j.val ≤ 128 := by decide +kernel
  have := this ⟨n, by omega⟩
  exact ⟨rfl, this.1, this.2⟩
set_option maxRecDepth 100000 in
set_option maxHeartbeats 1000000 in
theorem fa8 (w0 : World) (vt : Value) (nt : Nat) (top : Int) (sz b0 : Nat) (cs : List Value) (ht : Row w0 b0 sz vt nt cs) (h : FaH nt top) (NN : Int) (hN : Pow2 nt NN) (m : Int) (hm : 0 ≤ m ∧ m < 128) (k : Int) : T3 Try.prog (fun a w => (0 ≤ k ∧ k < nt) ∧ (IsW w0 w) ∧ Fr 56 [(0, vt), (1, .int .i64 top), (5, .int .i64 (mosI nt top m)), (6, .int .i64 m), (7, .int .i64 (popI m k)), (13, .int .i64 NN), (14, .int .i64 m), (18, .int .i64 nt), (19, .int .i64 k)] a) (sel [1, 1, 0, 1, 4, 4, 1, 1, 0, 4, 1, 1, 0, 1, 4, 4, 1, 1, 0, 4, 0] faR) (fun a w => (0 ≤ k ∧ k < nt) ∧ (IsW w0 w) ∧ Fr 56 [(0, vt), (1, .int .i64 top), (5, .int .i64 (mosI nt top m)), (6, .int .i64 m), (7, .int .i64 (popI m k)), (8, .int .i64 k), (13, .int .i64 NN), (14, .int .i64 m), (18, .int .i64 nt), (19, .int .i64 k)] a) No 9 No := by
  refine T3.leaf ?_
  rintro Q JS JX JT K hS hK hX hE hT hR a w ⟨hpre, hW, ⟨fr, rfl, q0, q1, q5, q6, q7, q13, q14, q18, q19, _⟩⟩
  have hpp := Lib.hid hpre
  rw [fr_faR, show fr 0 = _ from q0, show fr 1 = _ from q1, show fr 5 = _ from q5, show fr 6 = _ from q6, show fr 7 = _ from q7, show fr 13 = _ from q13, show fr 14 = _ from q14, show fr 18 = _ from q18, show fr 19 = _ from q19]
  clear q0 q1 q5 q6 q7 q13 q14 q18 q19
  conv => arg 2; whnf
  go_wp2_with fail
  refine Met.intro (hS _ _ ?_)
  exact ⟨hpp.out, hW, Fr.of _ rfl ⟨rfl, rfl, rfl, rfl, rfl, rfl, rfl, rfl, rfl, rfl, trivial⟩⟩

set_option maxRecDepth 100000 in
set_option maxHeartbeats 1000000 in
theorem fa9 (w0 : World) (vt : Value) (nt : Nat) (top : Int) (sz b0 : Nat) (cs : List Value) (ht : Row w0 b0 sz vt nt cs) (h : FaH nt top) (NN : Int) (hN : Pow2 nt NN) (m : Int) (hm : 0 ≤ m ∧ m < 128) (k : Int) : T3 Try.prog (fun a w => (0 ≤ k ∧ k < nt) ∧ (IsW w0 w) ∧ Fr 56 [(0, vt), (1, .int .i64 top), (5, .int .i64 (mosI nt top m)), (6, .int .i64 m), (7, .int .i64 (popI m k)), (8, .int .i64 k), (13, .int .i64 NN), (14, .int .i64 m), (18, .int .i64 nt), (19, .int .i64 k)] a) (sel [1, 1, 0, 1, 4, 4, 1, 1, 0, 4, 1, 1, 0, 1, 4, 4, 1, 1, 0, 4, 1] faR) (fun a w => (0 ≤ k ∧ k < nt) ∧ (IsW w0 w) ∧ Fr 56 [(0, vt), (1, .int .i64 top), (5, .int .i64 (mosI nt top m)), (6, .int .i64 m), (7, .int .i64 (popI m (k + 1))), (13, .int .i64 NN), (14, .int .i64 m), (18, .int .i64 nt), (19, .int .i64 k)] a) No 9 No := by
  refine T3.leaf ?_
  rintro Q JS JX JT K hS hK hX hE hT hR a w ⟨hpre, hW, ⟨fr, rfl, q0, q1, q5, q6, q7, q8, q13, q14, q18, q19, _⟩⟩
  have hpp := Lib.hid hpre
  obtain ⟨hk0, hk1⟩ := hpre
  have hb := bit_walk m k hm.1 hm.2 hk0
  have hb1 := bitI_01 m k
  have hp := popI_le m k hk0
  have n7 := h.n7
  have h64 : k ≤ 64 := by omega
  have Hs := Lib.hid (popI_succ m k hk0)
  generalize bitI m k = bb at *
  generalize popI m k = pp at *
  rw [fr_faR, show fr 0 = _ from q0, show fr 1 = _ from q1, show fr 5 = _ from q5, show fr 6 = _ from q6, show fr 7 = _ from q7, show fr 8 = _ from q8, show fr 13 = _ from q13, show fr 14 = _ from q14, show fr 18 = _ from q18, show fr 19 = _ from q19]
  clear q0 q1 q5 q6 q7 q8 q13 q14 q18 q19
  conv => arg 2; whnf
  go_wp2_with fail
  refine Met.intro (hS _ _ ?_)
  rw [Hs.out]
  exact ⟨hpp.out, hW, Fr.of _ rfl ⟨rfl, rfl, rfl, rfl, rfl, rfl, rfl, rfl, rfl, trivial⟩⟩

set_option maxRecDepth 100000 in
set_option maxHeartbeats 1000000 in
theorem fab (w0 : World) (vt : Value) (nt : Nat) (top : Int) (sz b0 : Nat) (cs : List Value) (ht : Row w0 b0 sz vt nt cs) (h : FaH nt top) (NN : Int) (hN : Pow2 nt NN) (m : Int) (hm : 0 ≤ m ∧ m < 128) (k : Int) : T3 Try.prog (fun a w => (0 ≤ k ∧ k < nt) ∧ (IsW w0 w) ∧ Fr 56 [(0, vt), (1, .int .i64 top), (5, .int .i64 (mosI nt top m)), (6, .int .i64 m), (7, .int .i64 (popI m k)), (13, .int .i64 NN), (14, .int .i64 m), (18, .int .i64 nt), (19, .int .i64 k)] a) (sel [1, 1, 0, 1, 4, 4, 1, 1, 0, 4, 1, 1, 0, 1, 4, 4, 1, 1, 0] faR) (fun a w => (0 ≤ k ∧ k < nt) ∧ (IsW w0 w) ∧ Fr 56 [(0, vt), (1, .int .i64 top), (5, .int .i64 (mosI nt top m)), (6, .int .i64 m), (7, .int .i64 (popI m (k + 1))), (13, .int .i64 NN), (14, .int .i64 m), (18, .int .i64 nt), (19, .int .i64 k)] a) No 9 No := T3.block (id' := 3) (c := (sel [1, 1, 0, 1, 4, 4, 1, 1, 0, 4, 1, 1, 0, 1, 4, 4, 1, 1, 0, 4] faR)) (by decide) (T3.seq (s := (sel [1, 1, 0, 1, 4, 4, 1, 1, 0, 4, 1, 1, 0, 1, 4, 4, 1, 1, 0, 4, 0] faR)) (c := (sel [1, 1, 0, 1, 4, 4, 1, 1, 0, 4, 1, 1, 0, 1, 4, 4, 1, 1, 0, 4, 1] faR)) (fa8 w0 vt nt top sz b0 cs ht h NN hN m hm k) (fa9 w0 vt nt top sz b0 cs ht h NN hN m hm k))

def fa2I (w0 : World) (vt : Value) (nt : Nat) (top : Int) (sz b0 : Nat) (cs : List Value) (ht : Row w0 b0 sz vt nt cs) (h : FaH nt top) (NN : Int) (hN : Pow2 nt NN) (m : Int) (hm : 0 ≤ m ∧ m < 128) (k : Int) (a : Act) (w : World) : Prop := (0 ≤ k ∧ k ≤ nt) ∧ (IsW w0 w) ∧ Fr 56 [(0, vt), (1, .int .i64 top), (5, .int .i64 (mosI nt top m)), (6, .int .i64 m), (7, .int .i64 (popI m k)), (13, .int .i64 NN), (14, .int .i64 m), (18, .int .i64 nt), (19, .int .i64 k)] a
set_option maxRecDepth 100000 in
set_option maxHeartbeats 1000000 in
theorem fa2t (w0 : World) (vt : Value) (nt : Nat) (top : Int) (sz b0 : Nat) (cs : List Value) (ht : Row w0 b0 sz vt nt cs) (h : FaH nt top) (NN : Int) (hN : Pow2 nt NN) (m : Int) (hm : 0 ≤ m ∧ m < 128) (k : Int) : T3 Try.prog (fun a w => fa2I w0 vt nt top sz b0 cs ht h NN hN m hm k a w) (sel [1, 1, 0, 1, 4, 4, 1, 1, 0, 4, 1, 1, 0, 1, 4, 4, 0] faR) (fun a w => ∃ q, Fr 56 ((20, .bool q) :: [(19, .int .i64 k)]) a ∧ ((q = true ↔ k < nt) ∧ fa2I w0 vt nt top sz b0 cs ht h NN hN m hm k a w)) No 9 No := by
  refine T3.leaf ?_
  rintro Q JS JX JT K hS hK hX hE hT hR a w ⟨hk, hW, ⟨fr, rfl, q0, q1, q5, q6, q7, q13, q14, q18, q19, _⟩⟩
  have n7 := h.n7
  rw [fr_faR, show fr 0 = _ from q0, show fr 1 = _ from q1, show fr 5 = _ from q5, show fr 6 = _ from q6, show fr 7 = _ from q7, show fr 13 = _ from q13, show fr 14 = _ from q14, show fr 18 = _ from q18, show fr 19 = _ from q19]
  clear q0 q1 q5 q6 q7 q13 q14 q18 q19
  conv => arg 2; whnf
  by_cases hlt : k < nt
  · go_wp2_with fail
    refine Met.intro (hS _ _ ?_)
    exact ⟨true, Fr.of _ rfl ⟨rfl, rfl, trivial⟩, ⟨fun _ => hlt, fun _ => rfl⟩, hk, hW, Fr.of _ rfl ⟨rfl, rfl, rfl, rfl, rfl, rfl, rfl, rfl, rfl, trivial⟩⟩
  · have hpb : decide (k < (nt)) = false := by simp; omega
    go_wp2_with fail
    refine Met.intro (hS _ _ ?_)
    exact ⟨false, Fr.of _ rfl ⟨rfl, rfl, trivial⟩, ⟨(fun h => by cases h), fun h => absurd h (by omega)⟩, hk, hW, Fr.of _ rfl ⟨rfl, rfl, rfl, rfl, rfl, rfl, rfl, rfl, rfl, trivial⟩⟩

set_option maxRecDepth 100000 in
set_option maxHeartbeats 1000000 in
theorem fa2n (w0 : World) (vt : Value) (nt : Nat) (top : Int) (sz b0 : Nat) (cs : List Value) (ht : Row w0 b0 sz vt nt cs) (h : FaH nt top) (NN : Int) (hN : Pow2 nt NN) (m : Int) (hm : 0 ≤ m ∧ m < 128) (k : Int) : T3 Try.prog (fun a w => (0 ≤ k ∧ k < nt) ∧ (IsW w0 w) ∧ Fr 56 [(0, vt), (1, .int .i64 top), (5, .int .i64 (mosI nt top m)), (6, .int .i64 m), (7, .int .i64 (popI m (k + 1))), (13, .int .i64 NN), (14, .int .i64 m), (18, .int .i64 nt), (19, .int .i64 k)] a) (sel [1, 1, 0, 1, 4, 4, 1, 1, 0, 4, 1, 1, 0, 1, 4, 4, 1, 1, 1] faR) (fun a w => fa2I w0 vt nt top sz b0 cs ht h NN hN m hm (k + 1) a w) No 9 No := by
  refine T3.leaf ?_
  rintro Q JS JX JT K hS hK hX hE hT hR a w ⟨hk, hW, ⟨fr, rfl, q0, q1, q5, q6, q7, q13, q14, q18, q19, _⟩⟩
  obtain ⟨hk0, hk1⟩ := hk
  have n7 := h.n7
  rw [fr_faR, show fr 0 = _ from q0, show fr 1 = _ from q1, show fr 5 = _ from q5, show fr 6 = _ from q6, show fr 7 = _ from q7, show fr 13 = _ from q13, show fr 14 = _ from q14, show fr 18 = _ from q18, show fr 19 = _ from q19]
  clear q0 q1 q5 q6 q7 q13 q14 q18 q19
  conv => arg 2; whnf
  go_wp2_with fail
  refine Met.intro (hS _ _ ?_)
  exact ⟨⟨by omega, by omega⟩, hW, Fr.of _ rfl ⟨rfl, rfl, rfl, rfl, rfl, rfl, rfl, rfl, rfl, trivial⟩⟩

set_option maxRecDepth 100000 in
set_option maxHeartbeats 1000000 in
theorem fa2loop (w0 : World) (vt : Value) (nt : Nat) (top : Int) (sz b0 : Nat) (cs : List Value) (ht : Row w0 b0 sz vt nt cs) (h : FaH nt top) (NN : Int) (hN : Pow2 nt NN) (m : Int) (hm : 0 ≤ m ∧ m < 128) : T3 Try.prog (fun a w => fa2I w0 vt nt top sz b0 cs ht h NN hN m hm 0 a w) (sel [1, 1, 0, 1, 4, 4, 1, 1, 0, 4, 1, 1, 0, 1] faR) (fun a w => (IsW w0 w) ∧ Fr 56 [(0, vt), (1, .int .i64 top), (5, .int .i64 (mosI nt top m)), (6, .int .i64 m), (7, .int .i64 (popI m nt)), (13, .int .i64 NN), (14, .int .i64 m)] a) No 9 No := by
  refine T3.loop (c := (sel [1, 1, 0, 1, 4, 4, 1, 1, 0, 4, 1, 1, 0, 1, 4, 4] faR)) (fun n a w => ∃ k : Int, (n : Int) = nt - k ∧ fa2I w0 vt nt top sz b0 cs ht h NN hN m hm k a w) (fun a w h => ⟨(nt : Int).toNat, 0, by have := h.1.2; omega, h⟩) (fun n => T3.ex fun k => T3.pure fun hn => ?_)
  refine T3.seq (s := (sel [1, 1, 0, 1, 4, 4, 1, 1, 0, 4, 1, 1, 0, 1, 4, 4, 0] faR)) (c := (sel [1, 1, 0, 1, 4, 4, 1, 1, 0, 4, 1, 1, 0, 1, 4, 4, 1] faR)) ((fa2t w0 vt nt top sz b0 cs ht h NN hN m hm k).noX) ?_
  refine T3.seq (s := (sel [1, 1, 0, 1, 4, 4, 1, 1, 0, 4, 1, 1, 0, 1, 4, 4, 1, 0] faR)) (c := (sel [1, 1, 0, 1, 4, 4, 1, 1, 0, 4, 1, 1, 0, 1, 4, 4, 1, 1] faR)) (S := fun a w => (0 ≤ k ∧ k < nt) ∧ (IsW w0 w) ∧ Fr 56 [(0, vt), (1, .int .i64 top), (5, .int .i64 (mosI nt top m)), (6, .int .i64 m), (7, .int .i64 (popI m k)), (13, .int .i64 NN), (14, .int .i64 m), (18, .int .i64 nt), (19, .int .i64 k)] a) ?_ (T3.seq (s := (sel [1, 1, 0, 1, 4, 4, 1, 1, 0, 4, 1, 1, 0, 1, 4, 4, 1, 1, 0] faR)) (c := (sel [1, 1, 0, 1, 4, 4, 1, 1, 0, 4, 1, 1, 0, 1, 4, 4, 1, 1, 1] faR)) (S := fun a w => (0 ≤ k ∧ k < nt) ∧ (IsW w0 w) ∧ Fr 56 [(0, vt), (1, .int .i64 top), (5, .int .i64 (mosI nt top m)), (6, .int .i64 m), (7, .int .i64 (popI m (k + 1))), (13, .int .i64 NN), (14, .int .i64 m), (18, .int .i64 nt), (19, .int .i64 k)] a) (T3.noX ((fab w0 vt nt top sz b0 cs ht h NN hN m hm k).mono (fun a w q => q) (fun a w q => q) (fun _ _ q => q) (fun _ _ q => q))) ?_)
  · refine T3.cond (o := .tmp 20) (x := .skip) (y := .exit 2) (fun a w => k < nt ∧ fa2I w0 vt nt top sz b0 cs ht h NN hN m hm k a w) (fun a w => ¬ k < nt ∧ fa2I w0 vt nt top sz b0 cs ht h NN hN m hm k a w) ?_ (T3.skip ?_) (T3.exit ?_)
    · rintro a w ⟨q, hF, hq, hI⟩
      have he := hF.eval 20 (by decide) (v := .bool q) (by simp)
      cases q
      · exact .inr ⟨he, (fun h => by have := hq.2 h; cases this), hI⟩
      · exact .inl ⟨he, hq.1 rfl, hI⟩
    · rintro a w ⟨hlt, hk, hI⟩
      exact ⟨⟨hk.1, hlt⟩, hI⟩
    · rintro a w ⟨hlt, hk, hI⟩
      obtain rfl : k = nt := by omega
      exact ⟨hI.1, hI.2.sub (by simp)⟩
  · intro a w hx
    have hk := hx.1
    exact (((fa2n w0 vt nt top sz b0 cs ht h NN hN m hm k).noX).post (fun a w q => ⟨n - 1, by omega, k + 1, by omega, q⟩)) a w hx
set_option maxRecDepth 100000 in
set_option maxHeartbeats 1000000 in
theorem fa15 (w0 : World) (vt : Value) (nt : Nat) (top : Int) (sz b0 : Nat) (cs : List Value) (ht : Row w0 b0 sz vt nt cs) (h : FaH nt top) (NN : Int) (hN : Pow2 nt NN) (m : Int) (hm : 0 ≤ m ∧ m < 128) (k : Int) : T3 Try.prog (fun a w => (0 ≤ k ∧ k < nt) ∧ (IsW w0 w) ∧ Fr 56 [(0, vt), (1, .int .i64 top), (5, .int .i64 (falI top m (mosI nt top m) k)), (6, .int .i64 m), (9, .int .i64 (top + zerI m k)), (13, .int .i64 NN), (14, .int .i64 m), (34, .int .i64 nt), (35, .int .i64 k)] a) (sel [1, 1, 0, 1, 4, 4, 1, 1, 0, 4, 1, 1, 1, 1, 1, 1, 4, 4, 1, 1, 0, 4, 0] faR) (fun a w => (0 ≤ k ∧ k < nt) ∧ (IsW w0 w) ∧ Fr 56 [(0, vt), (1, .int .i64 top), (5, .int .i64 (falI top m (mosI nt top m) k)), (6, .int .i64 m), (9, .int .i64 (top + zerI m k)), (10, .int .i64 k), (13, .int .i64 NN), (14, .int .i64 m), (34, .int .i64 nt), (35, .int .i64 k)] a) No 9 No := by
  refine T3.leaf ?_
  rintro Q JS JX JT K hS hK hX hE hT hR a w ⟨hpre, hW, ⟨fr, rfl, q0, q1, q5, q6, q9, q13, q14, q34, q35, _⟩⟩
  have hpp := Lib.hid hpre
  rw [fr_faR, show fr 0 = _ from q0, show fr 1 = _ from q1, show fr 5 = _ from q5, show fr 6 = _ from q6, show fr 9 = _ from q9, show fr 13 = _ from q13, show fr 14 = _ from q14, show fr 34 = _ from q34, show fr 35 = _ from q35]
  clear q0 q1 q5 q6 q9 q13 q14 q34 q35
  conv => arg 2; whnf
  go_wp2_with fail
  refine Met.intro (hS _ _ ?_)
  exact ⟨hpp.out, hW, Fr.of _ rfl ⟨rfl, rfl, rfl, rfl, rfl, rfl, rfl, rfl, rfl, rfl, trivial⟩⟩

set_option maxRecDepth 100000 in
set_option maxHeartbeats 1000000 in
theorem fa16 (w0 : World) (vt : Value) (nt : Nat) (top : Int) (sz b0 : Nat) (cs : List Value) (ht : Row w0 b0 sz vt nt cs) (h : FaH nt top) (NN : Int) (hN : Pow2 nt NN) (m : Int) (hm : 0 ≤ m ∧ m < 128) (k : Int) : T3 Try.prog (fun a w => (0 ≤ k ∧ k < nt) ∧ (IsW w0 w) ∧ Fr 56 [(0, vt), (1, .int .i64 top), (5, .int .i64 (falI top m (mosI nt top m) k)), (6, .int .i64 m), (9, .int .i64 (top + zerI m k)), (10, .int .i64 k), (13, .int .i64 NN), (14, .int .i64 m), (34, .int .i64 nt), (35, .int .i64 k)] a) (sel [1, 1, 0, 1, 4, 4, 1, 1, 0, 4, 1, 1, 1, 1, 1, 1, 4, 4, 1, 1, 0, 4, 1, 0] faR) (fun a w => ∃ q, Fr 56 ((42, .bool q) :: [(0, vt), (1, .int .i64 top), (5, .int .i64 (falI top m (mosI nt top m) k)), (6, .int .i64 m), (9, .int .i64 (top + zerI m k)), (10, .int .i64 k), (13, .int .i64 NN), (14, .int .i64 m), (34, .int .i64 nt), (35, .int .i64 k)]) a ∧ (((0 ≤ k ∧ k < nt) ∧ q = (bitI m k == 0)) ∧ IsW w0 w)) No 9 No := by
  refine T3.leaf ?_
  rintro Q JS JX JT K hS hK hX hE hT hR a w ⟨hpre, hW, ⟨fr, rfl, q0, q1, q5, q6, q9, q10, q13, q14, q34, q35, _⟩⟩
  have hpp := Lib.hid hpre
  obtain ⟨hk0, hk1⟩ := hpre
  have hb := bit_walk m k hm.1 hm.2 hk0
  have n7 := h.n7
  have h64 : k ≤ 64 := by omega
  generalize bitI m k = bb at *
  rw [fr_faR, show fr 0 = _ from q0, show fr 1 = _ from q1, show fr 5 = _ from q5, show fr 6 = _ from q6, show fr 9 = _ from q9, show fr 10 = _ from q10, show fr 13 = _ from q13, show fr 14 = _ from q14, show fr 34 = _ from q34, show fr 35 = _ from q35]
  clear q0 q1 q5 q6 q9 q10 q13 q14 q34 q35
  conv => arg 2; whnf
  go_wp2_with fail
  have hpre := hpp.out
  refine Met.intro (hS _ _ ?_)
  exact ⟨_, Fr.of _ rfl ⟨rfl, rfl, rfl, rfl, rfl, rfl, rfl, rfl, rfl, rfl, rfl, trivial⟩, ⟨hpre, rfl⟩, hW⟩

set_option maxRecDepth 100000 in
set_option maxHeartbeats 1000000 in
theorem fa17 (w0 : World) (vt : Value) (nt : Nat) (top : Int) (sz b0 : Nat) (cs : List Value) (ht : Row w0 b0 sz vt nt cs) (h : FaH nt top) (NN : Int) (hN : Pow2 nt NN) (m : Int) (hm : 0 ≤ m ∧ m < 128) (k : Int) : T3 Try.prog (fun a w => Fr 56 ((42, .bool true) :: [(0, vt), (1, .int .i64 top), (5, .int .i64 (falI top m (mosI nt top m) k)), (6, .int .i64 m), (9, .int .i64 (top + zerI m k)), (10, .int .i64 k), (13, .int .i64 NN), (14, .int .i64 m), (34, .int .i64 nt), (35, .int .i64 k)]) a ∧ ((0 ≤ k ∧ k < nt) ∧ true = (bitI m k == 0)) ∧ IsW w0 w) (sel [1, 1, 0, 1, 4, 4, 1, 1, 0, 4, 1, 1, 1, 1, 1, 1, 4, 4, 1, 1, 0, 4, 1, 1, 2, 0] faR) (fun a w => ((0 ≤ k ∧ k < nt) ∧ bitI m k = 0) ∧ (IsW w0 w) ∧ Fr 56 [(0, vt), (1, .int .i64 top), (5, .int .i64 (max (falI top m (mosI nt top m) k) (top + zerI m k - k))), (6, .int .i64 m), (9, .int .i64 (top + zerI m k)), (10, .int .i64 k), (13, .int .i64 NN), (14, .int .i64 m), (34, .int .i64 nt), (35, .int .i64 k)] a) No 9 No := by
  refine T3.leaf ?_
  rintro Q JS JX JT K hS hK hX hE hT hR a w ⟨⟨fr, rfl, q42, q0, q1, q5, q6, q9, q10, q13, q14, q34, q35, _⟩, ⟨hpre, hq⟩, hW⟩
  have HB := Lib.hid (show bitI m k = 0 by simpa using hq.symm)
  clear hq
  have hpp := Lib.hid hpre
  obtain ⟨hk0, hk1⟩ := hpre
  have hz := zerI_le m k hk0
  have hmo := mosI_le nt top m hm.1 h.t0 h.t4
  have hf := falI_le top m (mosI nt top m) k hk0 hmo.1 hmo.2 h.t0 h.t4
  have n7 := h.n7
  have t0 := h.t0
  have t4 := h.t4
  generalize zerI m k = zz at *
  generalize hmm : mosI nt top m = mm at *
  have HM := Lib.hid hmm
  clear hmm
  generalize falI top m mm k = ff at *
  rw [fr_faR, show fr 42 = _ from q42, show fr 0 = _ from q0, show fr 1 = _ from q1, show fr 5 = _ from q5, show fr 6 = _ from q6, show fr 9 = _ from q9, show fr 10 = _ from q10, show fr 13 = _ from q13, show fr 14 = _ from q14, show fr 34 = _ from q34, show fr 35 = _ from q35]
  clear q42 q0 q1 q5 q6 q9 q10 q13 q14 q34 q35
  conv => arg 2; whnf
  go_wp2_with fail
  refine Met.intro (hS _ _ ?_)
  exact ⟨⟨hpp.out, HB.out⟩, hW, Fr.of _ rfl ⟨rfl, rfl, rfl, rfl, rfl, rfl, rfl, rfl, rfl, rfl, trivial⟩⟩

set_option maxRecDepth 100000 in
set_option maxHeartbeats 1000000 in
theorem fa18 (w0 : World) (vt : Value) (nt : Nat) (top : Int) (sz b0 : Nat) (cs : List Value) (ht : Row w0 b0 sz vt nt cs) (h : FaH nt top) (NN : Int) (hN : Pow2 nt NN) (m : Int) (hm : 0 ≤ m ∧ m < 128) (k : Int) : T3 Try.prog (fun a w => ((0 ≤ k ∧ k < nt) ∧ bitI m k = 0) ∧ (IsW w0 w) ∧ Fr 56 [(0, vt), (1, .int .i64 top), (5, .int .i64 (max (falI top m (mosI nt top m) k) (top + zerI m k - k))), (6, .int .i64 m), (9, .int .i64 (top + zerI m k)), (10, .int .i64 k), (13, .int .i64 NN), (14, .int .i64 m), (34, .int .i64 nt), (35, .int .i64 k)] a) (sel [1, 1, 0, 1, 4, 4, 1, 1, 0, 4, 1, 1, 1, 1, 1, 1, 4, 4, 1, 1, 0, 4, 1, 1, 2, 1] faR) (fun a w => (0 ≤ k ∧ k < nt) ∧ (IsW w0 w) ∧ Fr 56 [(0, vt), (1, .int .i64 top), (5, .int .i64 (falI top m (mosI nt top m) (k + 1))), (6, .int .i64 m), (9, .int .i64 (top + zerI m (k + 1))), (13, .int .i64 NN), (14, .int .i64 m), (34, .int .i64 nt), (35, .int .i64 k)] a) No 9 No := by
  refine T3.leaf ?_
  rintro Q JS JX JT K hS hK hX hE hT hR a w ⟨hpre, hW, ⟨fr, rfl, q0, q1, q5, q6, q9, q10, q13, q14, q34, q35, _⟩⟩
  have HPP := Lib.hid hpre
  replace hpre := hpre.1
  have hpp := Lib.hid hpre
  obtain ⟨hk0, hk1⟩ := hpre
  have hz := zerI_le m k hk0
  have hmo := mosI_le nt top m hm.1 h.t0 h.t4
  have hf := falI_le top m (mosI nt top m) k hk0 hmo.1 hmo.2 h.t0 h.t4
  have n7 := h.n7
  have t0 := h.t0
  have t4 := h.t4
  have Hz := Lib.hid (zerI_succ m k hk0)
  have Hf := Lib.hid (falI_succ top m (mosI nt top m) k hk0)
  generalize zerI m k = zz at *
  generalize hmm : mosI nt top m = mm at *
  have HM := Lib.hid hmm
  clear hmm
  generalize falI top m mm k = ff at *
  rw [fr_faR, show fr 0 = _ from q0, show fr 1 = _ from q1, show fr 5 = _ from q5, show fr 6 = _ from q6, show fr 9 = _ from q9, show fr 10 = _ from q10, show fr 13 = _ from q13, show fr 14 = _ from q14, show fr 34 = _ from q34, show fr 35 = _ from q35]
  clear q0 q1 q5 q6 q9 q10 q13 q14 q34 q35
  conv => arg 2; whnf
  go_wp2_with fail
  refine Met.intro (hS _ _ ?_)
  have hb := HPP.out.2
  rw [Hz.out, Hf.out, hb, if_pos rfl, show top + (zz + (1 - 0)) = top + zz + 1 by omega]
  exact ⟨hpp.out, hW, Fr.of _ rfl ⟨rfl, rfl, rfl, rfl, rfl, rfl, rfl, rfl, rfl, trivial⟩⟩

set_option maxRecDepth 100000 in
set_option maxHeartbeats 1000000 in
theorem fac (w0 : World) (vt : Value) (nt : Nat) (top : Int) (sz b0 : Nat) (cs : List Value) (ht : Row w0 b0 sz vt nt cs) (h : FaH nt top) (NN : Int) (hN : Pow2 nt NN) (m : Int) (hm : 0 ≤ m ∧ m < 128) (k : Int) : T3 Try.prog (fun a w => (0 ≤ k ∧ k < nt) ∧ (IsW w0 w) ∧ Fr 56 [(0, vt), (1, .int .i64 top), (5, .int .i64 (falI top m (mosI nt top m) k)), (6, .int .i64 m), (9, .int .i64 (top + zerI m k)), (13, .int .i64 NN), (14, .int .i64 m), (34, .int .i64 nt), (35, .int .i64 k)] a) (sel [1, 1, 0, 1, 4, 4, 1, 1, 0, 4, 1, 1, 1, 1, 1, 1, 4, 4, 1, 1, 0] faR) (fun a w => (0 ≤ k ∧ k < nt) ∧ (IsW w0 w) ∧ Fr 56 [(0, vt), (1, .int .i64 top), (5, .int .i64 (falI top m (mosI nt top m) (k + 1))), (6, .int .i64 m), (9, .int .i64 (top + zerI m (k + 1))), (13, .int .i64 NN), (14, .int .i64 m), (34, .int .i64 nt), (35, .int .i64 k)] a) No 9 No := by
  refine T3.block (id' := 5) (c := (sel [1, 1, 0, 1, 4, 4, 1, 1, 0, 4, 1, 1, 1, 1, 1, 1, 4, 4, 1, 1, 0, 4] faR)) (by decide) ?_
  refine T3.seq (s := (sel [1, 1, 0, 1, 4, 4, 1, 1, 0, 4, 1, 1, 1, 1, 1, 1, 4, 4, 1, 1, 0, 4, 0] faR)) (c := (sel [1, 1, 0, 1, 4, 4, 1, 1, 0, 4, 1, 1, 1, 1, 1, 1, 4, 4, 1, 1, 0, 4, 1] faR)) (fa15 w0 vt nt top sz b0 cs ht h NN hN m hm k) ?_
  refine T3.test (s := (sel [1, 1, 0, 1, 4, 4, 1, 1, 0, 4, 1, 1, 1, 1, 1, 1, 4, 4, 1, 1, 0, 4, 1, 0] faR)) (x := (sel [1, 1, 0, 1, 4, 4, 1, 1, 0, 4, 1, 1, 1, 1, 1, 1, 4, 4, 1, 1, 0, 4, 1, 1, 2] faR)) (y := .skip) (C := fun q => ((0 ≤ k ∧ k < nt) ∧ q = (bitI m k == 0))) (W := fun w => IsW w0 w) (by decide) (fa16 w0 vt nt top sz b0 cs ht h NN hN m hm k) (T3.seq (s := (sel [1, 1, 0, 1, 4, 4, 1, 1, 0, 4, 1, 1, 1, 1, 1, 1, 4, 4, 1, 1, 0, 4, 1, 1, 2, 0] faR)) (c := (sel [1, 1, 0, 1, 4, 4, 1, 1, 0, 4, 1, 1, 1, 1, 1, 1, 4, 4, 1, 1, 0, 4, 1, 1, 2, 1] faR)) (fa17 w0 vt nt top sz b0 cs ht h NN hN m hm k) (fa18 w0 vt nt top sz b0 cs ht h NN hN m hm k)) (T3.skip ?_)
  rintro a w ⟨⟨hp, hq⟩, hW, hF⟩
  have hb : bitI m k = 1 := by
    have h1 := bitI_01 m k
    have h2 : ¬ bitI m k = 0 := by simpa using hq.symm
    omega
  refine ⟨hp, hW, ?_⟩
  rw [falI_succ _ _ _ _ hp.1, zerI_succ _ _ hp.1, hb, if_neg (by decide), show zerI m k + (1 - 1) = zerI m k by omega]
  exact hF.sub (by simp)

def fa3I (w0 : World) (vt : Value) (nt : Nat) (top : Int) (sz b0 : Nat) (cs : List Value) (ht : Row w0 b0 sz vt nt cs) (h : FaH nt top) (NN : Int) (hN : Pow2 nt NN) (m : Int) (hm : 0 ≤ m ∧ m < 128) (k : Int) (a : Act) (w : World) : Prop := (0 ≤ k ∧ k ≤ nt) ∧ (IsW w0 w) ∧ Fr 56 [(0, vt), (1, .int .i64 top), (5, .int .i64 (falI top m (mosI nt top m) k)), (6, .int .i64 m), (9, .int .i64 (top + zerI m k)), (13, .int .i64 NN), (14, .int .i64 m), (34, .int .i64 nt), (35, .int .i64 k)] a
set_option maxRecDepth 100000 in
set_option maxHeartbeats 1000000 in
theorem fa3t (w0 : World) (vt : Value) (nt : Nat) (top : Int) (sz b0 : Nat) (cs : List Value) (ht : Row w0 b0 sz vt nt cs) (h : FaH nt top) (NN : Int) (hN : Pow2 nt NN) (m : Int) (hm : 0 ≤ m ∧ m < 128) (k : Int) : T3 Try.prog (fun a w => fa3I w0 vt nt top sz b0 cs ht h NN hN m hm k a w) (sel [1, 1, 0, 1, 4, 4, 1, 1, 0, 4, 1, 1, 1, 1, 1, 1, 4, 4, 0] faR) (fun a w => ∃ q, Fr 56 ((36, .bool q) :: [(35, .int .i64 k)]) a ∧ ((q = true ↔ k < nt) ∧ fa3I w0 vt nt top sz b0 cs ht h NN hN m hm k a w)) No 9 No := by
  refine T3.leaf ?_
  rintro Q JS JX JT K hS hK hX hE hT hR a w ⟨hk, hW, ⟨fr, rfl, q0, q1, q5, q6, q9, q13, q14, q34, q35, _⟩⟩
  have n7 := h.n7
  rw [fr_faR, show fr 0 = _ from q0, show fr 1 = _ from q1, show fr 5 = _ from q5, show fr 6 = _ from q6, show fr 9 = _ from q9, show fr 13 = _ from q13, show fr 14 = _ from q14, show fr 34 = _ from q34, show fr 35 = _ from q35]
  clear q0 q1 q5 q6 q9 q13 q14 q34 q35
  conv => arg 2; whnf
  by_cases hlt : k < nt
  · go_wp2_with fail
    refine Met.intro (hS _ _ ?_)
    exact ⟨true, Fr.of _ rfl ⟨rfl, rfl, trivial⟩, ⟨fun _ => hlt, fun _ => rfl⟩, hk, hW, Fr.of _ rfl ⟨rfl, rfl, rfl, rfl, rfl, rfl, rfl, rfl, rfl, trivial⟩⟩
  · have hpb : decide (k < (nt)) = false := by simp; omega
    go_wp2_with fail
    refine Met.intro (hS _ _ ?_)
    exact ⟨false, Fr.of _ rfl ⟨rfl, rfl, trivial⟩, ⟨(fun h => by cases h), fun h => absurd h (by omega)⟩, hk, hW, Fr.of _ rfl ⟨rfl, rfl, rfl, rfl, rfl, rfl, rfl, rfl, rfl, trivial⟩⟩

set_option maxRecDepth 100000 in
set_option maxHeartbeats 1000000 in
theorem fa3n (w0 : World) (vt : Value) (nt : Nat) (top : Int) (sz b0 : Nat) (cs : List Value) (ht : Row w0 b0 sz vt nt cs) (h : FaH nt top) (NN : Int) (hN : Pow2 nt NN) (m : Int) (hm : 0 ≤ m ∧ m < 128) (k : Int) : T3 Try.prog (fun a w => (0 ≤ k ∧ k < nt) ∧ (IsW w0 w) ∧ Fr 56 [(0, vt), (1, .int .i64 top), (5, .int .i64 (falI top m (mosI nt top m) (k + 1))), (6, .int .i64 m), (9, .int .i64 (top + zerI m (k + 1))), (13, .int .i64 NN), (14, .int .i64 m), (34, .int .i64 nt), (35, .int .i64 k)] a) (sel [1, 1, 0, 1, 4, 4, 1, 1, 0, 4, 1, 1, 1, 1, 1, 1, 4, 4, 1, 1, 1] faR) (fun a w => fa3I w0 vt nt top sz b0 cs ht h NN hN m hm (k + 1) a w) No 9 No := by
  refine T3.leaf ?_
  rintro Q JS JX JT K hS hK hX hE hT hR a w ⟨hk, hW, ⟨fr, rfl, q0, q1, q5, q6, q9, q13, q14, q34, q35, _⟩⟩
  obtain ⟨hk0, hk1⟩ := hk
  have n7 := h.n7
  rw [fr_faR, show fr 0 = _ from q0, show fr 1 = _ from q1, show fr 5 = _ from q5, show fr 6 = _ from q6, show fr 9 = _ from q9, show fr 13 = _ from q13, show fr 14 = _ from q14, show fr 34 = _ from q34, show fr 35 = _ from q35]
  clear q0 q1 q5 q6 q9 q13 q14 q34 q35
  conv => arg 2; whnf
  go_wp2_with fail
  refine Met.intro (hS _ _ ?_)
  exact ⟨⟨by omega, by omega⟩, hW, Fr.of _ rfl ⟨rfl, rfl, rfl, rfl, rfl, rfl, rfl, rfl, rfl, trivial⟩⟩

set_option maxRecDepth 100000 in
set_option maxHeartbeats 1000000 in
theorem fa3loop (w0 : World) (vt : Value) (nt : Nat) (top : Int) (sz b0 : Nat) (cs : List Value) (ht : Row w0 b0 sz vt nt cs) (h : FaH nt top) (NN : Int) (hN : Pow2 nt NN) (m : Int) (hm : 0 ≤ m ∧ m < 128) : T3 Try.prog (fun a w => fa3I w0 vt nt top sz b0 cs ht h NN hN m hm 0 a w) (sel [1, 1, 0, 1, 4, 4, 1, 1, 0, 4, 1, 1, 1, 1, 1, 1] faR) (fun a w => (IsW w0 w) ∧ Fr 56 [(0, vt), (1, .int .i64 top), (5, .int .i64 (falI top m (mosI nt top m) nt)), (13, .int .i64 NN), (14, .int .i64 m)] a) No 9 No := by
  refine T3.loop (c := (sel [1, 1, 0, 1, 4, 4, 1, 1, 0, 4, 1, 1, 1, 1, 1, 1, 4, 4] faR)) (fun n a w => ∃ k : Int, (n : Int) = nt - k ∧ fa3I w0 vt nt top sz b0 cs ht h NN hN m hm k a w) (fun a w h => ⟨(nt : Int).toNat, 0, by have := h.1.2; omega, h⟩) (fun n => T3.ex fun k => T3.pure fun hn => ?_)
  refine T3.seq (s := (sel [1, 1, 0, 1, 4, 4, 1, 1, 0, 4, 1, 1, 1, 1, 1, 1, 4, 4, 0] faR)) (c := (sel [1, 1, 0, 1, 4, 4, 1, 1, 0, 4, 1, 1, 1, 1, 1, 1, 4, 4, 1] faR)) ((fa3t w0 vt nt top sz b0 cs ht h NN hN m hm k).noX) ?_
  refine T3.seq (s := (sel [1, 1, 0, 1, 4, 4, 1, 1, 0, 4, 1, 1, 1, 1, 1, 1, 4, 4, 1, 0] faR)) (c := (sel [1, 1, 0, 1, 4, 4, 1, 1, 0, 4, 1, 1, 1, 1, 1, 1, 4, 4, 1, 1] faR)) (S := fun a w => (0 ≤ k ∧ k < nt) ∧ (IsW w0 w) ∧ Fr 56 [(0, vt), (1, .int .i64 top), (5, .int .i64 (falI top m (mosI nt top m) k)), (6, .int .i64 m), (9, .int .i64 (top + zerI m k)), (13, .int .i64 NN), (14, .int .i64 m), (34, .int .i64 nt), (35, .int .i64 k)] a) ?_ (T3.seq (s := (sel [1, 1, 0, 1, 4, 4, 1, 1, 0, 4, 1, 1, 1, 1, 1, 1, 4, 4, 1, 1, 0] faR)) (c := (sel [1, 1, 0, 1, 4, 4, 1, 1, 0, 4, 1, 1, 1, 1, 1, 1, 4, 4, 1, 1, 1] faR)) (S := fun a w => (0 ≤ k ∧ k < nt) ∧ (IsW w0 w) ∧ Fr 56 [(0, vt), (1, .int .i64 top), (5, .int .i64 (falI top m (mosI nt top m) (k + 1))), (6, .int .i64 m), (9, .int .i64 (top + zerI m (k + 1))), (13, .int .i64 NN), (14, .int .i64 m), (34, .int .i64 nt), (35, .int .i64 k)] a) (T3.noX ((fac w0 vt nt top sz b0 cs ht h NN hN m hm k).mono (fun a w q => q) (fun a w q => q) (fun _ _ q => q) (fun _ _ q => q))) ?_)
  · refine T3.cond (o := .tmp 36) (x := .skip) (y := .exit 4) (fun a w => k < nt ∧ fa3I w0 vt nt top sz b0 cs ht h NN hN m hm k a w) (fun a w => ¬ k < nt ∧ fa3I w0 vt nt top sz b0 cs ht h NN hN m hm k a w) ?_ (T3.skip ?_) (T3.exit ?_)
    · rintro a w ⟨q, hF, hq, hI⟩
      have he := hF.eval 36 (by decide) (v := .bool q) (by simp)
      cases q
      · exact .inr ⟨he, (fun h => by have := hq.2 h; cases this), hI⟩
      · exact .inl ⟨he, hq.1 rfl, hI⟩
    · rintro a w ⟨hlt, hk, hI⟩
      exact ⟨⟨hk.1, hlt⟩, hI⟩
    · rintro a w ⟨hlt, hk, hI⟩
      obtain rfl : k = nt := by omega
      exact ⟨hI.1, hI.2.sub (by simp)⟩
  · intro a w hx
    have hk := hx.1
    exact (((fa3n w0 vt nt top sz b0 cs ht h NN hN m hm k).noX).post (fun a w q => ⟨n - 1, by omega, k + 1, by omega, q⟩)) a w hx
set_option maxRecDepth 100000 in
set_option maxHeartbeats 1000000 in
theorem fa4 (w0 : World) (vt : Value) (nt : Nat) (top : Int) (sz b0 : Nat) (cs : List Value) (ht : Row w0 b0 sz vt nt cs) (h : FaH nt top) (NN : Int) (hN : Pow2 nt NN) (m : Int) (hm : 0 ≤ m ∧ m < 128) : T3 Try.prog (fun a w => (IsW w0 w) ∧ Fr 56 [(0, vt), (1, .int .i64 top), (5, .int .i64 (mosI nt top m)), (13, .int .i64 NN), (14, .int .i64 m)] a) (sel [1, 1, 0, 1, 4, 4, 1, 1, 0, 4, 0] faR) (fun a w => (IsW w0 w) ∧ Fr 56 [(0, vt), (1, .int .i64 top), (5, .int .i64 (mosI nt top m)), (6, .int .i64 m), (13, .int .i64 NN), (14, .int .i64 m)] a) No 9 No := by
  refine T3.leaf ?_
  rintro Q JS JX JT K hS hK hX hE hT hR a w ⟨hW, ⟨fr, rfl, q0, q1, q5, q13, q14, _⟩⟩
  rw [fr_faR, show fr 0 = _ from q0, show fr 1 = _ from q1, show fr 5 = _ from q5, show fr 13 = _ from q13, show fr 14 = _ from q14]
  clear q0 q1 q5 q13 q14
  conv => arg 2; whnf
  go_wp2_with fail
  refine Met.intro (hS _ _ ?_)
  exact ⟨hW, Fr.of _ rfl ⟨rfl, rfl, rfl, rfl, rfl, rfl, trivial⟩⟩

set_option maxRecDepth 100000 in
set_option maxHeartbeats 1000000 in
theorem fa5 (w0 : World) (vt : Value) (nt : Nat) (top : Int) (sz b0 : Nat) (cs : List Value) (ht : Row w0 b0 sz vt nt cs) (h : FaH nt top) (NN : Int) (hN : Pow2 nt NN) (m : Int) (hm : 0 ≤ m ∧ m < 128) : T3 Try.prog (fun a w => (IsW w0 w) ∧ Fr 56 [(0, vt), (1, .int .i64 top), (5, .int .i64 (mosI nt top m)), (6, .int .i64 m), (13, .int .i64 NN), (14, .int .i64 m)] a) (sel [1, 1, 0, 1, 4, 4, 1, 1, 0, 4, 1, 0] faR) (fun a w => (IsW w0 w) ∧ Fr 56 [(0, vt), (1, .int .i64 top), (5, .int .i64 (mosI nt top m)), (6, .int .i64 m), (7, .int .i64 0), (13, .int .i64 NN), (14, .int .i64 m)] a) No 9 No := by
  refine T3.leaf ?_
  rintro Q JS JX JT K hS hK hX hE hT hR a w ⟨hW, ⟨fr, rfl, q0, q1, q5, q6, q13, q14, _⟩⟩
  rw [fr_faR, show fr 0 = _ from q0, show fr 1 = _ from q1, show fr 5 = _ from q5, show fr 6 = _ from q6, show fr 13 = _ from q13, show fr 14 = _ from q14]
  clear q0 q1 q5 q6 q13 q14
  conv => arg 2; whnf
  go_wp2_with fail
  refine Met.intro (hS _ _ ?_)
  exact ⟨hW, Fr.of _ rfl ⟨rfl, rfl, rfl, rfl, rfl, rfl, rfl, trivial⟩⟩

set_option maxRecDepth 100000 in
set_option maxHeartbeats 1000000 in
theorem fa6 (w0 : World) (vt : Value) (nt : Nat) (top : Int) (sz b0 : Nat) (cs : List Value) (ht : Row w0 b0 sz vt nt cs) (h : FaH nt top) (NN : Int) (hN : Pow2 nt NN) (m : Int) (hm : 0 ≤ m ∧ m < 128) : T3 Try.prog (fun a w => (IsW w0 w) ∧ Fr 56 [(0, vt), (1, .int .i64 top), (5, .int .i64 (mosI nt top m)), (6, .int .i64 m), (7, .int .i64 0), (13, .int .i64 NN), (14, .int .i64 m)] a) (sel [1, 1, 0, 1, 4, 4, 1, 1, 0, 4, 1, 1, 0, 0] faR) (fun a w => (0 ≤ (0 : Int) ∧ (0 : Int) ≤ nt) ∧ (IsW w0 w) ∧ Fr 56 [(0, vt), (1, .int .i64 top), (5, .int .i64 (mosI nt top m)), (6, .int .i64 m), (7, .int .i64 (popI m 0)), (13, .int .i64 NN), (14, .int .i64 m), (18, .int .i64 nt), (19, .int .i64 0)] a) No 9 No := by
  refine T3.leaf ?_
  rintro Q JS JX JT K hS hK hX hE hT hR a w ⟨hW, ⟨fr, rfl, q0, q1, q5, q6, q7, q13, q14, _⟩⟩
  obtain ⟨p1, c1, hv1⟩ := ht.shape
  subst hv1
  rw [fr_faR, show fr 0 = _ from q0, show fr 1 = _ from q1, show fr 5 = _ from q5, show fr 6 = _ from q6, show fr 7 = _ from q7, show fr 13 = _ from q13, show fr 14 = _ from q14]
  clear q0 q1 q5 q6 q7 q13 q14
  conv => arg 2; whnf
  go_wp2_with fail
  refine Met.intro (hS _ _ ?_)
  exact ⟨⟨by omega, by omega⟩, hW, Fr.of _ rfl ⟨rfl, rfl, rfl, rfl, rfl, rfl, rfl, rfl, rfl, trivial⟩⟩

set_option maxRecDepth 100000 in
set_option maxHeartbeats 1000000 in
theorem fa11 (w0 : World) (vt : Value) (nt : Nat) (top : Int) (sz b0 : Nat) (cs : List Value) (ht : Row w0 b0 sz vt nt cs) (h : FaH nt top) (NN : Int) (hN : Pow2 nt NN) (m : Int) (hm : 0 ≤ m ∧ m < 128) : T3 Try.prog (fun a w => (IsW w0 w) ∧ Fr 56 [(0, vt), (1, .int .i64 top), (5, .int .i64 (mosI nt top m)), (6, .int .i64 m), (7, .int .i64 (popI m nt)), (13, .int .i64 NN), (14, .int .i64 m)] a) (sel [1, 1, 0, 1, 4, 4, 1, 1, 0, 4, 1, 1, 1, 0, 0] faR) (fun a w => ∃ q, Fr 56 ((31, .bool q) :: [(0, vt), (1, .int .i64 top), (5, .int .i64 (mosI nt top m)), (6, .int .i64 m), (7, .int .i64 (popI m nt)), (13, .int .i64 NN), (14, .int .i64 m)]) a ∧ ((q = (popI m nt != top)) ∧ IsW w0 w)) No 9 No := by
  refine T3.leaf ?_
  rintro Q JS JX JT K hS hK hX hE hT hR a w ⟨hW, ⟨fr, rfl, q0, q1, q5, q6, q7, q13, q14, _⟩⟩
  generalize popI m nt = pp at *
  rw [fr_faR, show fr 0 = _ from q0, show fr 1 = _ from q1, show fr 5 = _ from q5, show fr 6 = _ from q6, show fr 7 = _ from q7, show fr 13 = _ from q13, show fr 14 = _ from q14]
  clear q0 q1 q5 q6 q7 q13 q14
  conv => arg 2; whnf
  go_wp2_with fail
  refine Met.intro (hS _ _ ?_)
  exact ⟨_, Fr.of _ rfl ⟨rfl, rfl, rfl, rfl, rfl, rfl, rfl, rfl, trivial⟩, rfl, hW⟩

set_option maxRecDepth 100000 in
set_option maxHeartbeats 1000000 in
theorem fa12 (w0 : World) (vt : Value) (nt : Nat) (top : Int) (sz b0 : Nat) (cs : List Value) (ht : Row w0 b0 sz vt nt cs) (h : FaH nt top) (NN : Int) (hN : Pow2 nt NN) (m : Int) (hm : 0 ≤ m ∧ m < 128) : T3 Try.prog (fun a w => (IsW w0 w) ∧ Fr 56 [(0, vt), (1, .int .i64 top), (5, .int .i64 (mosI nt top m)), (6, .int .i64 m), (7, .int .i64 (popI m nt)), (13, .int .i64 NN), (14, .int .i64 m)] a) (sel [1, 1, 0, 1, 4, 4, 1, 1, 0, 4, 1, 1, 1, 1, 0] faR) (fun a w => (IsW w0 w) ∧ Fr 56 [(0, vt), (1, .int .i64 top), (5, .int .i64 (mosI nt top m)), (6, .int .i64 m), (9, .int .i64 top), (13, .int .i64 NN), (14, .int .i64 m)] a) No 9 No := by
  refine T3.leaf ?_
  rintro Q JS JX JT K hS hK hX hE hT hR a w ⟨hW, ⟨fr, rfl, q0, q1, q5, q6, q7, q13, q14, _⟩⟩
  rw [fr_faR, show fr 0 = _ from q0, show fr 1 = _ from q1, show fr 5 = _ from q5, show fr 6 = _ from q6, show fr 7 = _ from q7, show fr 13 = _ from q13, show fr 14 = _ from q14]
  clear q0 q1 q5 q6 q7 q13 q14
  conv => arg 2; whnf
  go_wp2_with fail
  refine Met.intro (hS _ _ ?_)
  exact ⟨hW, Fr.of _ rfl ⟨rfl, rfl, rfl, rfl, rfl, rfl, rfl, trivial⟩⟩

set_option maxRecDepth 100000 in
set_option maxHeartbeats 1000000 in
theorem fa13 (w0 : World) (vt : Value) (nt : Nat) (top : Int) (sz b0 : Nat) (cs : List Value) (ht : Row w0 b0 sz vt nt cs) (h : FaH nt top) (NN : Int) (hN : Pow2 nt NN) (m : Int) (hm : 0 ≤ m ∧ m < 128) : T3 Try.prog (fun a w => (IsW w0 w) ∧ Fr 56 [(0, vt), (1, .int .i64 top), (5, .int .i64 (mosI nt top m)), (6, .int .i64 m), (9, .int .i64 top), (13, .int .i64 NN), (14, .int .i64 m)] a) (sel [1, 1, 0, 1, 4, 4, 1, 1, 0, 4, 1, 1, 1, 1, 1, 0] faR) (fun a w => (0 ≤ (0 : Int) ∧ (0 : Int) ≤ nt) ∧ (IsW w0 w) ∧ Fr 56 [(0, vt), (1, .int .i64 top), (5, .int .i64 (falI top m (mosI nt top m) 0)), (6, .int .i64 m), (9, .int .i64 (top + zerI m 0)), (13, .int .i64 NN), (14, .int .i64 m), (34, .int .i64 nt), (35, .int .i64 0)] a) No 9 No := by
  refine T3.leaf ?_
  rintro Q JS JX JT K hS hK hX hE hT hR a w ⟨hW, ⟨fr, rfl, q0, q1, q5, q6, q9, q13, q14, _⟩⟩
  obtain ⟨p1, c1, hv1⟩ := ht.shape
  subst hv1
  have hz : top + zerI m 0 = top := by simp [zerI, zerosTo]
  have hf : falI top m (mosI nt top m) 0 = mosI nt top m := rfl
  have HZ := Lib.hid hz
  clear hz hf
  rw [fr_faR, show fr 0 = _ from q0, show fr 1 = _ from q1, show fr 5 = _ from q5, show fr 6 = _ from q6, show fr 9 = _ from q9, show fr 13 = _ from q13, show fr 14 = _ from q14]
  clear q0 q1 q5 q6 q9 q13 q14
  conv => arg 2; whnf
  go_wp2_with fail
  refine Met.intro (hS _ _ ?_)
  rw [HZ.out]
  exact ⟨⟨by omega, by omega⟩, hW, Fr.of _ rfl ⟨rfl, rfl, rfl, rfl, rfl, rfl, rfl, rfl, rfl, trivial⟩⟩

end Go.Proofs.Ytkdimgghljklmaa
/-
  Lots: how far a team can fall, the reference's look, from end to end. Conditions: 1 to 7 teams; at most 4 places.
-/
set_option linter.unusedVariables false
namespace Go.Proofs.Ytkdimgghljklmaa
open Go.RowKit Go.Bw
/-- A block that may be left. -/
theorem t3_blockc {P : Program} {R S X T : Rel} {c : Code} {id id' : Nat} (h : T3 P R c S S id T) : T3 P R (.block id c) S X id' T := by
  intro a w hR
  refine wp_block (wp_mono (h a w hR) ?_)
  intro e a w q
  cases e with
  | normal => exact q
  | exit i =>
    obtain ⟨rfl, q⟩ := q
    show Exit.inBlock i _ (.exit i) a w
    simp only [Exit.inBlock, if_true]
    exact q
  | ret => exact q
  | goto l => exact q
  | panic ch => exact q
  | outgrown => exact q
set_option maxRecDepth 100000 in
set_option maxHeartbeats 1000000 in
theorem fad (w0 : World) (vt : Value) (nt : Nat) (top : Int) (sz b0 : Nat) (cs : List Value) (ht : Row w0 b0 sz vt nt cs) (h : FaH nt top) (NN : Int) (hN : Pow2 nt NN) (k : Int) : T3 Try.prog (fun a w => (0 ≤ k ∧ k < NN) ∧ (IsW w0 w) ∧ Fr 56 [(0, vt), (1, .int .i64 top), (5, .int .i64 (mosI nt top k)), (13, .int .i64 NN), (14, .int .i64 k)] a) (sel [1, 1, 0, 1, 4, 4, 1, 1, 0] faR) (fun a w => (0 ≤ k ∧ k < NN) ∧ (IsW w0 w) ∧ Fr 56 [(0, vt), (1, .int .i64 top), (5, .int .i64 (mosI nt top (k + 1))), (13, .int .i64 NN), (14, .int .i64 k)] a) No 9 No := by
  refine T3.pure fun hk => ?_
  have hmk : 0 ≤ k ∧ k < 128 := ⟨hk.1, by have := hN.hi; omega⟩
  refine T3.post (S := fun a w => (IsW w0 w) ∧ Fr 56 [(0, vt), (1, .int .i64 top), (5, .int .i64 (mosI nt top (k + 1))), (13, .int .i64 NN), (14, .int .i64 k)] a) ?_ (fun a w q => ⟨hk, q⟩)
  refine t3_blockc (id := 1) (c := (sel [1, 1, 0, 1, 4, 4, 1, 1, 0, 4] faR)) ?_
  refine T3.seq (s := (sel [1, 1, 0, 1, 4, 4, 1, 1, 0, 4, 0] faR)) (c := (sel [1, 1, 0, 1, 4, 4, 1, 1, 0, 4, 1] faR)) ((fa4 w0 vt nt top sz b0 cs ht h NN hN k hmk).noX) ?_
  refine T3.seq (s := (sel [1, 1, 0, 1, 4, 4, 1, 1, 0, 4, 1, 0] faR)) (c := (sel [1, 1, 0, 1, 4, 4, 1, 1, 0, 4, 1, 1] faR)) ((fa5 w0 vt nt top sz b0 cs ht h NN hN k hmk).noX) ?_
  refine T3.seq (s := (sel [1, 1, 0, 1, 4, 4, 1, 1, 0, 4, 1, 1, 0] faR)) (c := (sel [1, 1, 0, 1, 4, 4, 1, 1, 0, 4, 1, 1, 1] faR)) ((T3.seq (s := (sel [1, 1, 0, 1, 4, 4, 1, 1, 0, 4, 1, 1, 0, 0] faR)) (c := (sel [1, 1, 0, 1, 4, 4, 1, 1, 0, 4, 1, 1, 0, 1] faR)) (fa6 w0 vt nt top sz b0 cs ht h NN hN k hmk) (fa2loop w0 vt nt top sz b0 cs ht h NN hN k hmk)).noX) ?_
  refine T3.seq (s := (sel [1, 1, 0, 1, 4, 4, 1, 1, 0, 4, 1, 1, 1, 0] faR)) (c := (sel [1, 1, 0, 1, 4, 4, 1, 1, 0, 4, 1, 1, 1, 1] faR)) (S := fun a w => (popI k nt = top) ∧ (IsW w0 w) ∧ Fr 56 [(0, vt), (1, .int .i64 top), (5, .int .i64 (mosI nt top k)), (6, .int .i64 k), (7, .int .i64 (popI k nt)), (13, .int .i64 NN), (14, .int .i64 k)] a) ?_ (T3.pure fun hp => ?_)
  · refine T3.test (s := (sel [1, 1, 0, 1, 4, 4, 1, 1, 0, 4, 1, 1, 1, 0, 0] faR)) (x := .exit 1) (y := .skip) (C := fun q => (q = (popI k nt != top))) (W := fun w => IsW w0 w) (by decide) ((fa11 w0 vt nt top sz b0 cs ht h NN hN k hmk).noX) (T3.exit ?_) (T3.skip ?_)
    · rintro a w ⟨hF, hq, hW⟩
      have hne : ¬ popI k nt = top := by simpa using hq.symm
      refine ⟨hW, ?_⟩
      rw [mosI_succ _ _ _ hk.1, if_neg hne]
      exact hF.sub (by simp)
    · rintro a w ⟨hq, hW, hF⟩
      exact ⟨by simpa using hq.symm, hW, hF⟩
  refine T3.seq (s := (sel [1, 1, 0, 1, 4, 4, 1, 1, 0, 4, 1, 1, 1, 1, 0] faR)) (c := (sel [1, 1, 0, 1, 4, 4, 1, 1, 0, 4, 1, 1, 1, 1, 1] faR)) ((fa12 w0 vt nt top sz b0 cs ht h NN hN k hmk).noX) ?_
  refine T3.post (((T3.seq (s := (sel [1, 1, 0, 1, 4, 4, 1, 1, 0, 4, 1, 1, 1, 1, 1, 0] faR)) (c := (sel [1, 1, 0, 1, 4, 4, 1, 1, 0, 4, 1, 1, 1, 1, 1, 1] faR)) (fa13 w0 vt nt top sz b0 cs ht h NN hN k hmk) (fa3loop w0 vt nt top sz b0 cs ht h NN hN k hmk)).noX)) ?_
  rintro a w ⟨hW, hF⟩
  refine ⟨hW, ?_⟩
  rw [mosI_succ _ _ _ hk.1, if_pos hp]
  exact hF.sub (by simp)

def fa0I (w0 : World) (vt : Value) (nt : Nat) (top : Int) (sz b0 : Nat) (cs : List Value) (ht : Row w0 b0 sz vt nt cs) (h : FaH nt top) (NN : Int) (hN : Pow2 nt NN) (k : Int) (a : Act) (w : World) : Prop := (0 ≤ k ∧ k ≤ NN) ∧ (IsW w0 w) ∧ Fr 56 [(0, vt), (1, .int .i64 top), (5, .int .i64 (mosI nt top k)), (13, .int .i64 NN), (14, .int .i64 k)] a
set_option maxRecDepth 100000 in
set_option maxHeartbeats 1000000 in
theorem fa0t (w0 : World) (vt : Value) (nt : Nat) (top : Int) (sz b0 : Nat) (cs : List Value) (ht : Row w0 b0 sz vt nt cs) (h : FaH nt top) (NN : Int) (hN : Pow2 nt NN) (k : Int) : T3 Try.prog (fun a w => fa0I w0 vt nt top sz b0 cs ht h NN hN k a w) (sel [1, 1, 0, 1, 4, 4, 0] faR) (fun a w => ∃ q, Fr 56 ((15, .bool q) :: [(14, .int .i64 k)]) a ∧ ((q = true ↔ k < NN) ∧ fa0I w0 vt nt top sz b0 cs ht h NN hN k a w)) No 9 No := by
  refine T3.leaf ?_
  rintro Q JS JX JT K hS hK hX hE hT hR a w ⟨hk, hW, ⟨fr, rfl, q0, q1, q5, q13, q14, _⟩⟩
  have n7 := hN.hi
  rw [fr_faR, show fr 0 = _ from q0, show fr 1 = _ from q1, show fr 5 = _ from q5, show fr 13 = _ from q13, show fr 14 = _ from q14]
  clear q0 q1 q5 q13 q14
  conv => arg 2; whnf
  by_cases hlt : k < NN
  · go_wp2_with fail
    refine Met.intro (hS _ _ ?_)
    exact ⟨true, Fr.of _ rfl ⟨rfl, rfl, trivial⟩, ⟨fun _ => hlt, fun _ => rfl⟩, hk, hW, Fr.of _ rfl ⟨rfl, rfl, rfl, rfl, rfl, trivial⟩⟩
  · have hpb : decide (k < NN) = false := by simp; omega
    go_wp2_with fail
    refine Met.intro (hS _ _ ?_)
    exact ⟨false, Fr.of _ rfl ⟨rfl, rfl, trivial⟩, ⟨(fun h => by cases h), fun h => absurd h (by omega)⟩, hk, hW, Fr.of _ rfl ⟨rfl, rfl, rfl, rfl, rfl, trivial⟩⟩

set_option maxRecDepth 100000 in
set_option maxHeartbeats 1000000 in
theorem fa0n (w0 : World) (vt : Value) (nt : Nat) (top : Int) (sz b0 : Nat) (cs : List Value) (ht : Row w0 b0 sz vt nt cs) (h : FaH nt top) (NN : Int) (hN : Pow2 nt NN) (k : Int) : T3 Try.prog (fun a w => (0 ≤ k ∧ k < NN) ∧ (IsW w0 w) ∧ Fr 56 [(0, vt), (1, .int .i64 top), (5, .int .i64 (mosI nt top (k + 1))), (13, .int .i64 NN), (14, .int .i64 k)] a) (sel [1, 1, 0, 1, 4, 4, 1, 1, 1] faR) (fun a w => fa0I w0 vt nt top sz b0 cs ht h NN hN (k + 1) a w) No 9 No := by
  refine T3.leaf ?_
  rintro Q JS JX JT K hS hK hX hE hT hR a w ⟨hk, hW, ⟨fr, rfl, q0, q1, q5, q13, q14, _⟩⟩
  obtain ⟨hk0, hk1⟩ := hk
  have n7 := hN.hi
  rw [fr_faR, show fr 0 = _ from q0, show fr 1 = _ from q1, show fr 5 = _ from q5, show fr 13 = _ from q13, show fr 14 = _ from q14]
  clear q0 q1 q5 q13 q14
  conv => arg 2; whnf
  go_wp2_with fail
  refine Met.intro (hS _ _ ?_)
  exact ⟨⟨by omega, by omega⟩, hW, Fr.of _ rfl ⟨rfl, rfl, rfl, rfl, rfl, trivial⟩⟩

set_option maxRecDepth 100000 in
set_option maxHeartbeats 1000000 in
theorem fa0loop (w0 : World) (vt : Value) (nt : Nat) (top : Int) (sz b0 : Nat) (cs : List Value) (ht : Row w0 b0 sz vt nt cs) (h : FaH nt top) (NN : Int) (hN : Pow2 nt NN) : T3 Try.prog (fun a w => fa0I w0 vt nt top sz b0 cs ht h NN hN 0 a w) (sel [1, 1, 0, 1] faR) (fun a w => (IsW w0 w) ∧ Fr 56 [(1, .int .i64 top), (5, .int .i64 (mosI nt top NN))] a) No 9 No := by
  refine T3.loop (c := (sel [1, 1, 0, 1, 4, 4] faR)) (fun n a w => ∃ k : Int, (n : Int) = NN - k ∧ fa0I w0 vt nt top sz b0 cs ht h NN hN k a w) (fun a w h => ⟨(NN : Int).toNat, 0, by have := h.1.2; omega, h⟩) (fun n => T3.ex fun k => T3.pure fun hn => ?_)
  refine T3.seq (s := (sel [1, 1, 0, 1, 4, 4, 0] faR)) (c := (sel [1, 1, 0, 1, 4, 4, 1] faR)) ((fa0t w0 vt nt top sz b0 cs ht h NN hN k).noX) ?_
  refine T3.seq (s := (sel [1, 1, 0, 1, 4, 4, 1, 0] faR)) (c := (sel [1, 1, 0, 1, 4, 4, 1, 1] faR)) (S := fun a w => (0 ≤ k ∧ k < NN) ∧ (IsW w0 w) ∧ Fr 56 [(0, vt), (1, .int .i64 top), (5, .int .i64 (mosI nt top k)), (13, .int .i64 NN), (14, .int .i64 k)] a) ?_ (T3.seq (s := (sel [1, 1, 0, 1, 4, 4, 1, 1, 0] faR)) (c := (sel [1, 1, 0, 1, 4, 4, 1, 1, 1] faR)) (S := fun a w => (0 ≤ k ∧ k < NN) ∧ (IsW w0 w) ∧ Fr 56 [(0, vt), (1, .int .i64 top), (5, .int .i64 (mosI nt top (k + 1))), (13, .int .i64 NN), (14, .int .i64 k)] a) (T3.noX (fad w0 vt nt top sz b0 cs ht h NN hN k)) ?_)
  · refine T3.cond (o := .tmp 15) (x := .skip) (y := .exit 0) (fun a w => k < NN ∧ fa0I w0 vt nt top sz b0 cs ht h NN hN k a w) (fun a w => ¬ k < NN ∧ fa0I w0 vt nt top sz b0 cs ht h NN hN k a w) ?_ (T3.skip ?_) (T3.exit ?_)
    · rintro a w ⟨q, hF, hq, hI⟩
      have he := hF.eval 15 (by decide) (v := .bool q) (by simp)
      cases q
      · exact .inr ⟨he, (fun h => by have := hq.2 h; cases this), hI⟩
      · exact .inl ⟨he, hq.1 rfl, hI⟩
    · rintro a w ⟨hlt, hk, hI⟩
      exact ⟨⟨hk.1, hlt⟩, hI⟩
    · rintro a w ⟨hlt, hk, hI⟩
      obtain rfl : k = NN := by omega
      exact ⟨hI.1, hI.2.sub (by simp)⟩
  · intro a w hx
    have hk := hx.1
    exact (((fa0n w0 vt nt top sz b0 cs ht h NN hN k).noX).post (fun a w q => ⟨n - 1, by omega, k + 1, by omega, q⟩)) a w hx
set_option maxRecDepth 100000 in
set_option maxHeartbeats 1000000 in
theorem faA (w0 : World) (vt : Value) (nt : Nat) (top : Int) (sz b0 : Nat) (cs : List Value) (ht : Row w0 b0 sz vt nt cs) (h : FaH nt top) (NN : Int) (hN : Pow2 nt NN) : T3 Try.prog (fun a w => (IsW w0 w) ∧ Fr 56 [(0, vt), (1, .int .i64 top)] a) (sel [0] faR) (fun a w => (IsW w0 w) ∧ Fr 56 [(0, vt), (1, .int .i64 top)] a) No 9 No := by
  refine T3.leaf ?_
  rintro Q JS JX JT K hS hK hX hE hT hR a w ⟨hW, ⟨fr, rfl, q0, q1, _⟩⟩
  obtain ⟨p1, c1, hv1⟩ := ht.shape
  subst hv1
  rw [fr_faR, show fr 0 = _ from q0, show fr 1 = _ from q1]
  clear q0 q1
  conv => arg 2; whnf
  go_wp2_with fail
  refine Met.intro (hS _ _ ?_)
  exact ⟨hW, Fr.of _ rfl ⟨rfl, rfl, trivial⟩⟩

set_option maxRecDepth 100000 in
set_option maxHeartbeats 1000000 in
theorem faB (w0 : World) (vt : Value) (nt : Nat) (top : Int) (sz b0 : Nat) (cs : List Value) (ht : Row w0 b0 sz vt nt cs) (h : FaH nt top) (NN : Int) (hN : Pow2 nt NN) : T3 Try.prog (fun a w => (IsW w0 w) ∧ Fr 56 [(0, vt), (1, .int .i64 top)] a) (sel [1, 0] faR) (fun a w => (IsW w0 w) ∧ Fr 56 [(0, vt), (1, .int .i64 top), (5, .int .i64 0)] a) No 9 No := by
  refine T3.leaf ?_
  rintro Q JS JX JT K hS hK hX hE hT hR a w ⟨hW, ⟨fr, rfl, q0, q1, _⟩⟩
  obtain ⟨p1, c1, hv1⟩ := ht.shape
  subst hv1
  rw [fr_faR, show fr 0 = _ from q0, show fr 1 = _ from q1]
  clear q0 q1
  conv => arg 2; whnf
  go_wp2_with fail
  refine Met.intro (hS _ _ ?_)
  exact ⟨hW, Fr.of _ rfl ⟨rfl, rfl, rfl, trivial⟩⟩

set_option maxRecDepth 100000 in
set_option maxHeartbeats 1000000 in
theorem faC (w0 : World) (vt : Value) (nt : Nat) (top : Int) (sz b0 : Nat) (cs : List Value) (ht : Row w0 b0 sz vt nt cs) (h : FaH nt top) (NN : Int) (hN : Pow2 nt NN) : T3 Try.prog (fun a w => (IsW w0 w) ∧ Fr 56 [(0, vt), (1, .int .i64 top), (5, .int .i64 0)] a) (sel [1, 1, 0, 0] faR) (fun a w => (0 ≤ (0 : Int) ∧ (0 : Int) ≤ NN) ∧ (IsW w0 w) ∧ Fr 56 [(0, vt), (1, .int .i64 top), (5, .int .i64 (mosI nt top 0)), (13, .int .i64 NN), (14, .int .i64 0)] a) No 9 No := by
  refine T3.leaf ?_
  rintro Q JS JX JT K hS hK hX hE hT hR a w ⟨hW, ⟨fr, rfl, q0, q1, q5, _⟩⟩
  obtain ⟨p1, c1, hv1⟩ := ht.shape
  subst hv1
  have n7 := h.n7
  have hlo := hN.lo
  have hsh : IntKind.i64.wrap ((2 : Int) ^ nt) = NN := by rw [← hN.e]; exact IntWalk.i64_in _ (by have := hN.hi; omega)
  have hnt : (nt : Int) ≤ 64 := by omega
  have hm0 : mosI nt top 0 = 0 := rfl
  have HM := Lib.hid hm0
  clear hm0
  rw [fr_faR, show fr 0 = _ from q0, show fr 1 = _ from q1, show fr 5 = _ from q5]
  clear q0 q1 q5
  conv => arg 2; whnf
  go_wp2_with fail
  refine Met.intro (hS _ _ ?_)
  rw [HM.out]
  exact ⟨⟨by omega, by omega⟩, hW, Fr.of _ rfl ⟨rfl, rfl, rfl, rfl, rfl, trivial⟩⟩

set_option maxRecDepth 100000 in
set_option maxHeartbeats 1000000 in
theorem faD (w0 : World) (vt : Value) (nt : Nat) (top : Int) (sz b0 : Nat) (cs : List Value) (ht : Row w0 b0 sz vt nt cs) (h : FaH nt top) (NN : Int) (hN : Pow2 nt NN) : T3 Try.prog (fun a w => (IsW w0 w) ∧ Fr 56 [(1, .int .i64 top), (5, .int .i64 (mosI nt top NN))] a) (sel [1, 1, 1, 0] faR) (fun a w => (IsW w0 w) ∧ Fr 56 [(4, .int .i64 (max (mosI nt top NN) (top - 1)))] a) No 9 No := by
  refine T3.leaf ?_
  rintro Q JS JX JT K hS hK hX hE hT hR a w ⟨hW, ⟨fr, rfl, q1, q5, _⟩⟩
  have hb := mosI_le nt top NN (by have := hN.lo; omega) h.t0 h.t4
  have t0 := h.t0
  have t4 := h.t4
  generalize mosI nt top NN = mm at *
  rw [fr_faR, show fr 1 = _ from q1, show fr 5 = _ from q5]
  clear q1 q5
  conv => arg 2; whnf
  go_wp2_with fail
  refine Met.intro (hS _ _ ?_)
  exact ⟨hW, Fr.of _ rfl ⟨rfl, trivial⟩⟩

set_option maxRecDepth 100000 in
set_option maxHeartbeats 1000000 in
theorem fall_ref (w0 : World) (vt : Value) (nt : Nat) (top : Int) (sz b0 : Nat) (cs : List Value) (ht : Row w0 b0 sz vt nt cs) (h : FaH nt top) (htn : top ≤ nt) :
    Calls Try.prog 21 #[vt, .int .i64 top] w0 fun e w' => e = .returned (.int .i64 (min top ((nt : Int) - 1))) ∧ w0 = w' := by
  obtain ⟨NN, hN⟩ : ∃ NN, Pow2 nt NN := ⟨_, Pow2.of h.n7⟩
  have hall : T3 Try.prog (fun a w => (IsW w0 w) ∧ Fr 56 [(0, vt), (1, .int .i64 top)] a) faR No No 9 (fun a w => IsW w0 w ∧ Fr 56 [(4, .int .i64 (max (mosI nt top NN) (top - 1)))] a) := by
    refine T3.seq (s := (sel [0] faR)) (c := (sel [1] faR)) (T3.noT (faA w0 vt nt top sz b0 cs ht h NN hN)) ?_
    refine T3.seq (s := (sel [1, 0] faR)) (c := (sel [1, 1] faR)) (T3.noT (faB w0 vt nt top sz b0 cs ht h NN hN)) ?_
    refine T3.seq (s := (sel [1, 1, 0] faR)) (c := (sel [1, 1, 1] faR)) (T3.noT (T3.seq (s := (sel [1, 1, 0, 0] faR)) (c := (sel [1, 1, 0, 1] faR)) (faC w0 vt nt top sz b0 cs ht h NN hN) (fa0loop w0 vt nt top sz b0 cs ht h NN hN))) ?_
    refine T3.seq (s := (sel [1, 1, 1, 0] faR)) (c := (sel [1, 1, 1, 1] faR)) (T3.noT (faD w0 vt nt top sz b0 cs ht h NN hN)) ?_
    exact T3.ret (fun a w q => q)
  have hv : max (mosI nt top NN) (top - 1) = min top ((nt : Int) - 1) := by
    have := fallR_eq (n := nt) (top := top) h.n1 h.n7 h.t0 h.t4 htn
    unfold fallR at this
    rw [← this]
    unfold mosI
    have e : NN.toNat = 2 ^ nt := by
      rw [hN.e]
      have : ((2 : Int) ^ nt) = ((2 ^ nt : Nat) : Int) := by rw [Int.natCast_pow]; rfl
      rw [this, Int.toNat_natCast]
    rw [e]
  rw [hv] at hall
  go_enter Try.func21, Try.ntmps21
  refine T3.done (s := faR) hall ⟨rfl, Fr.of _ rfl ⟨rfl, rfl, trivial⟩⟩ ?_
  rintro a w ⟨hw, fr, rfl, q4, _⟩
  obtain rfl : w = w0 := hw
  rw [fr_faR, show fr 4 = _ from q4]
  go_ret
  exact ⟨rfl, rfl⟩
end Go.Proofs.Ytkdimgghljklmaa
/-
  Lots: the program's count of ways: the call of itself, the loop that counts, and the whole. Conditions: right weights.
-/
set_option linter.unusedVariables false
namespace Go.Proofs.Ytkdimgghljklmaa
open Go.RowKit Go.Bw
/-- The world of a call within: it starts there. -/
theorem Wy.self {w0 w : World} {gl bt n who place top : Nat} {vw vtk : Value} {ws : List Int} {h : List Nat} (l : Wy w0 gl bt vw vtk n ws who place top h w) : Wy w gl bt vw vtk n ws who place top h w :=
  ⟨l.c0, l.c1, l.c2, l.c3, l.c4, l.wr, l.tk, grown_refl _ _, l.ng, l.nw, Nat.le_trans l.bt0 l.gr.size⟩
/-- What ways does with m places left. -/
def WaysC (m : Nat) : Prop := ∀ (w0 : World) (gl bt : Nat) (vw vtk : Value) (nt : Nat) (ws : List Int) (who place top : Nat) (h : List Nat),
  WF nt ws who place top → Have nt h → h.length + m = top → gl < w0.heap.size → (∀ k, vw.ownBlock = some k → k < w0.heap.size) → (∀ k, vtk.ownBlock = some k → k < w0.heap.size) →
  Wy w0 gl bt vw vtk nt ws who place top h w0 →
  Calls Try.prog 44 #[.pointer (some ⟨gl, 0, none⟩), .int .i64 (h.length : Nat)] w0 fun e w' =>
    e = .returned (.int .i64 (wayF (fun i => geti ws (i : Int)) nt place who m h)) ∧ Wy w0 gl bt vw vtk nt ws who place top h w'
/-- The bounds of the sums. -/
theorem ws_sum_le {nt : Nat} {ws : List Int} (hl : ws.length = nt) (n14 : nt ≤ 14) (hw : ∀ x ∈ ws, 1 ≤ x ∧ x ≤ 1000) : sumN nt (fun i => geti ws (i : Int)) ≤ 14000 := by
  have h1 : sumN nt (fun i => geti ws (i : Int)) ≤ sumN nt (fun _ => 1000) := sumN_le fun i hi => (geti_lo hw (by omega) (by omega)).2
  have h2 : ∀ n : Nat, sumN n (fun _ => (1000 : Int)) = 1000 * n := by
    intro n
    induction n with
    | zero => rfl
    | succ n ih => rw [sumN_succ, ih]; omega
  rw [h2] at h1
  omega
theorem pow_small {m : Nat} (hm : m ≤ 4) : (14000 : Int) ^ m ≤ 38416000000000000 := by
  have : m = 0 ∨ m = 1 ∨ m = 2 ∨ m = 3 ∨ m = 4 := by omega
  rcases this with rfl | rfl | rfl | rfl | rfl <;> decide
/-- The bounds of a count and of its terms. -/
theorem way_small {nt who place top : Nat} {ws : List Int} (f : WF nt ws who place top) (m : Nat) (h : List Nat) (hh : Have nt h) (hm : h.length + m = top) :
    0 ≤ wayF (fun i => geti ws (i : Int)) nt place who m h ∧ wayF (fun i => geti ws (i : Int)) nt place who m h ≤ 38416000000000000 := by
  have hb := wayF_bound (ws := fun i => geti ws (i : Int)) (n := nt) (place := place) (who := who) (B := 14000) (fun i hi => by have := geti_lo f.lo (k := (i : Int)) (by omega) (by have := f.len; omega); omega) (ws_sum_le f.len f.n14 f.lo) (by decide) m h hh (by have := f.tn; omega)
  have := pow_small (m := m) (by have := f.ht; omega)
  omega
theorem term_nonneg {nt who place top : Nat} {ws : List Int} (f : WF nt ws who place top) (m : Nat) (h : List Nat) (hh : Have nt h) (hm : h.length + (m + 1) = top) (j : Nat) (hj : j < nt) : 0 ≤ termF ws nt place who m h j := by
  unfold termF
  have hg := gets_nonneg (ws := fun i => geti ws (i : Int)) (n := nt) (h := h) (fun i hi => by have := geti_lo f.lo (k := (i : Int)) (by omega) (by have := f.len; omega); omega) j
  split
  · exact Int.le_refl _
  · rename_i hc
    have h0 : getsF (fun i => geti ws (i : Int)) nt h j ≠ 0 := fun e => hc (.inl e)
    exact Int.mul_nonneg hg (way_small f m (h ++ [j]) (hh.snoc hj (gets_free hh (by have := f.tn; omega) h0)) (by simp; omega)).1
theorem sumN_mono {f : Nat → Int} {n : Nat} (hf : ∀ i, i < n → 0 ≤ f i) : ∀ k, k ≤ n → 0 ≤ sumN k f ∧ sumN k f ≤ sumN n f := by
  intro k hk
  refine ⟨sumN_nonneg fun i hi => hf i (by omega), ?_⟩
  induction n with
  | zero => obtain rfl : k = 0 := by omega
            exact Int.le_refl _
  | succ n ih =>
    by_cases h : k = n + 1
    · subst h; exact Int.le_refl _
    · have := ih (fun i hi => hf i (by omega)) (by omega)
      have := hf n (by omega)
      rw [sumN_succ]; omega
theorem out_small {nt who place top : Nat} {ws : List Int} (f : WF nt ws who place top) (m : Nat) (h : List Nat) (hh : Have nt h) (hm : h.length + (m + 1) = top) (k : Nat) (hk : k ≤ nt) :
    0 ≤ outTo ws nt place who m h k ∧ outTo ws nt place who m h k ≤ 38416000000000000 := by
  have h1 := sumN_mono (f := termF ws nt place who m h) (n := nt) (fun j hj => term_nonneg f m h hh hm j hj) k hk
  have h2 := way_small f (m + 1) h hh hm
  rw [← outTo_all] at h2
  unfold outTo at *
  omega
/-- A number that counts, and what it is worth. -/
structure Tk (ws : List Int) (nt place who : Nat) (h : List Nat) (k : Int) : Prop where
  g0 : geti (getsL ws nt h nt) k ≠ 0
  iff : k.toNat = who ↔ h.length = place
set_option maxRecDepth 100000 in
set_option maxHeartbeats 1000000 in
theorem wy15 (w0 : World) (gl bt : Nat) (vw vtk : Value) (nt : Nat) (ws : List Int) (who place top : Nat) (h : List Nat) (c : Wc w0 gl bt vw vtk nt ws who place top h) (m : Nat) (hm : h.length + (m + 1) = top) (hrec : WaysC m) (v5 : Value) (k : Int) (t : Tk ws nt place who h k) : T3 Try.prog (fun a w => (0 ≤ k ∧ k < nt) ∧ (Wy w0 gl bt vw vtk nt ws who place top (h ++ [k.toNat]) w ∧ w.ownsRow w0.heap.size 3 1 v5 nt ((getsL ws nt h nt).map (.int .i64))) ∧ Fr 94 [(0, .pointer (some ⟨gl, 0, none⟩)), (1, .int .i64 h.length), (5, v5), (8, .int .i64 (outTo ws nt place who m h (k : Int).toNat)), (9, .int .i64 k), (10, .int .i64 (geti (getsL ws nt h nt) k)), (48, v5), (49, .int .i64 nt), (50, .int .i64 k)] a) (sel [1, 1, 1, 1, 1, 0, 1, 4, 4, 1, 1, 0, 4, 1, 1, 1, 0] wyP) (fun a w => (0 ≤ k ∧ k < nt) ∧ (Wy w0 gl bt vw vtk nt ws who place top (h ++ [k.toNat]) w ∧ w.ownsRow w0.heap.size 3 1 v5 nt ((getsL ws nt h nt).map (.int .i64))) ∧ Fr 94 [(0, .pointer (some ⟨gl, 0, none⟩)), (1, .int .i64 h.length), (5, v5), (8, .int .i64 (outTo ws nt place who m h (k + 1 : Int).toNat)), (9, .int .i64 k), (10, .int .i64 (geti (getsL ws nt h nt) k)), (48, v5), (49, .int .i64 nt), (50, .int .i64 k)] a) No 9 No := by
  refine T3.leaf ?_
  rintro Q JS JX JT K hS hK hX hE hT hR a w ⟨hpre, ⟨hW, hO⟩, ⟨fr, rfl, q0, q1, q5, q8, q9, q10, q48, q49, q50, _⟩⟩
  have hpp := Lib.hid hpre
  obtain ⟨hk0, hk1⟩ := hpre
  have f := c.f
  have n14 := c.f.n14
  have ht4 := c.f.ht
  have hlt : h.length < nt := by have := c.hl; have := c.f.tn; omega
  have hgf : geti (getsL ws nt h nt) k = getsF (fun i => geti ws (i : Int)) nt h k.toNat := by
    have := getsL_all ws nt h k.toNat (by omega)
    rwa [Int.toNat_of_nonneg hk0] at this
  have h0 := t.g0
  rw [hgf] at h0
  have hfr := gets_free c.hh hlt h0
  have hhv := c.hh.snoc (j := k.toNat) (by omega) hfr
  have hlen : (h ++ [k.toNat]).length + m = top := by simp; omega
  have hc := hrec w gl bt vw vtk nt ws who place top (h ++ [k.toNat]) c.f hhv hlen (Nat.lt_of_lt_of_le c.gl0 hW.gr.size) (fun k hk => Nat.lt_of_lt_of_le (c.wv k hk) hW.gr.size) (fun k hk => Nat.lt_of_lt_of_le (c.tv k hk) hW.gr.size) hW.self
  rw [show (((h ++ [k.toNat]).length : Nat) : Int) = h.length + 1 by simp] at hc
  have HC := Lib.hid hc
  have hout := out_small c.f m h c.hh hm k.toNat (by omega)
  have hout1 := out_small c.f m h c.hh hm (k + 1).toNat (by omega)
  have hsx := outTo_succ ws nt place who m h k hk0
  have hterm : termF ws nt place who m h k.toNat = geti (getsL ws nt h nt) k * wayF (fun i => geti ws (i : Int)) nt place who m (h ++ [k.toNat]) := by
    unfold termF
    rw [if_neg (by rintro (e | e); exact h0 e; exact e t.iff), hgf]
  rw [hterm] at hsx
  have HS := Lib.hid hsx
  have hb0 : 0 ≤ geti (getsL ws nt h nt) k * wayF (fun i => geti ws (i : Int)) nt place who m (h ++ [k.toNat]) := by
    rw [← hterm]; exact term_nonneg c.f m h c.hh hm k.toNat (by omega)
  rw [hsx] at hout1
  clear hsx hterm hgf h0 hc hhv hlen hrec
  have HW0 := Lib.hid hW
  have HO0 := Lib.hid hO
  clear hW hO
  generalize geti (getsL ws nt h nt) k = g at *
  generalize wayF (fun i => geti ws (i : Int)) nt place who m (h ++ [k.toNat]) = r at *
  generalize outTo ws nt place who m h k.toNat = ov at *
  generalize outTo ws nt place who m h (k + 1).toNat = ov1 at *
  have hlb : (h.length : Int) ≤ 4 := by omega
  rw [fr_wyP, show fr 0 = _ from q0, show fr 1 = _ from q1, show fr 5 = _ from q5, show fr 8 = _ from q8, show fr 9 = _ from q9, show fr 10 = _ from q10, show fr 48 = _ from q48, show fr 49 = _ from q49, show fr 50 = _ from q50]
  clear q0 q1 q5 q8 q9 q10 q48 q49 q50
  conv => arg 2; whnf
  go_wp2_with fail
  refine HC.out.mono ?_
  rintro e w1 ⟨rfl, hY⟩
  have HW := Lib.hid (HW0.out.grow hY.gr hY.tk)
  have HO := Lib.hid (own_app HO0.out HW0.out.tk (by decide) hY.gr)
  clear hY
  go_wp2_with fail
  refine Met.intro (hS _ _ ?_)
  rw [HS.out]
  exact ⟨hpp.out, ⟨HW.out, HO.out⟩, Fr.of _ rfl ⟨rfl, rfl, rfl, rfl, rfl, rfl, rfl, rfl, rfl, trivial⟩⟩

set_option maxRecDepth 100000 in
set_option maxHeartbeats 1000000 in
theorem wy16 (w0 : World) (gl bt : Nat) (vw vtk : Value) (nt : Nat) (ws : List Int) (who place top : Nat) (h : List Nat) (c : Wc w0 gl bt vw vtk nt ws who place top h) (m : Nat) (hm : h.length + (m + 1) = top) (hrec : WaysC m) (v5 : Value) (k : Int) (t : Tk ws nt place who h k) : T3 Try.prog (fun a w => (0 ≤ k ∧ k < nt) ∧ (Wy w0 gl bt vw vtk nt ws who place top (h ++ [k.toNat]) w ∧ w.ownsRow w0.heap.size 3 1 v5 nt ((getsL ws nt h nt).map (.int .i64))) ∧ Fr 94 [(0, .pointer (some ⟨gl, 0, none⟩)), (1, .int .i64 h.length), (5, v5), (8, .int .i64 (outTo ws nt place who m h (k + 1 : Int).toNat)), (9, .int .i64 k), (10, .int .i64 (geti (getsL ws nt h nt) k)), (48, v5), (49, .int .i64 nt), (50, .int .i64 k)] a) (sel [1, 1, 1, 1, 1, 0, 1, 4, 4, 1, 1, 0, 4, 1, 1, 1, 1] wyP) (fun a w => (0 ≤ k ∧ k < nt) ∧ (Wy w0 gl bt vw vtk nt ws who place top h w ∧ w.ownsRow w0.heap.size 3 1 v5 nt ((getsL ws nt h nt).map (.int .i64))) ∧ Fr 94 [(0, .pointer (some ⟨gl, 0, none⟩)), (1, .int .i64 h.length), (5, v5), (8, .int .i64 (outTo ws nt place who m h ((k + 1) : Int).toNat)), (48, v5), (49, .int .i64 nt), (50, .int .i64 k)] a) No 9 No := by
  refine T3.leaf ?_
  rintro Q JS JX JT K hS hK hX hE hT hR a w ⟨hpre, ⟨hW, hO⟩, ⟨fr, rfl, q0, q1, q5, q8, q9, q10, q48, q49, q50, _⟩⟩
  have hpp := Lib.hid hpre
  obtain ⟨hk0, hk1⟩ := hpre
  have x4 := hW.c4
  have n14 := c.f.n14
  have hlt : h.length < nt := by have := c.hl; have := c.f.tn; omega
  have hgf : geti (getsL ws nt h nt) k = getsF (fun i => geti ws (i : Int)) nt h k.toNat := by
    have := getsL_all ws nt h k.toNat (by omega)
    rwa [Int.toNat_of_nonneg hk0] at this
  have h0 := t.g0
  rw [hgf] at h0
  have hfr := gets_free c.hh hlt h0
  obtain ⟨g, cc, hv, hgb, hgl, _⟩ := owns_shape hW.tk (by omega)
  subst hv
  have hfz := ints_frozen hW.tk k.toNat
  have hcl := hW.tk.cells (g := g) rfl k.toNat _ (takenC_at nt (h ++ [k.toNat]) k.toNat (by omega))
  rw [Addr.add_lit, Nat.zero_add] at hcl
  have HW := Lib.hid (hW.free (j := k.toNat) (by omega) hfr)
  have HO := Lib.hid (own_app hO hW.tk (by decide) (grown_setCell w g k.toNat (.bool false)))
  clear hW hO hgf h0 hfr
  rw [fr_wyP, show fr 0 = _ from q0, show fr 1 = _ from q1, show fr 5 = _ from q5, show fr 8 = _ from q8, show fr 9 = _ from q9, show fr 10 = _ from q10, show fr 48 = _ from q48, show fr 49 = _ from q49, show fr 50 = _ from q50]
  clear q0 q1 q5 q8 q9 q10 q48 q49 q50
  conv => arg 2; whnf
  go_wp2_with fail
  refine Met.intro (hS _ _ ?_)
  exact ⟨hpp.out, ⟨HW.out, HO.out⟩, Fr.of _ rfl ⟨rfl, rfl, rfl, rfl, rfl, rfl, rfl, trivial⟩⟩

set_option maxRecDepth 100000 in
set_option maxHeartbeats 1000000 in
theorem wyd (w0 : World) (gl bt : Nat) (vw vtk : Value) (nt : Nat) (ws : List Int) (who place top : Nat) (h : List Nat) (c : Wc w0 gl bt vw vtk nt ws who place top h) (m : Nat) (hm : h.length + (m + 1) = top) (hrec : WaysC m) (v5 : Value) (k : Int) : T3 Try.prog (fun a w => (0 ≤ k ∧ k < nt) ∧ (Wy w0 gl bt vw vtk nt ws who place top h w ∧ w.ownsRow w0.heap.size 3 1 v5 nt ((getsL ws nt h nt).map (.int .i64))) ∧ Fr 94 [(0, .pointer (some ⟨gl, 0, none⟩)), (1, .int .i64 h.length), (5, v5), (8, .int .i64 (outTo ws nt place who m h (k : Int).toNat)), (48, v5), (49, .int .i64 nt), (50, .int .i64 k)] a) (sel [1, 1, 1, 1, 1, 0, 1, 4, 4, 1, 1, 0] wyP) (fun a w => (0 ≤ k ∧ k < nt) ∧ (Wy w0 gl bt vw vtk nt ws who place top h w ∧ w.ownsRow w0.heap.size 3 1 v5 nt ((getsL ws nt h nt).map (.int .i64))) ∧ Fr 94 [(0, .pointer (some ⟨gl, 0, none⟩)), (1, .int .i64 h.length), (5, v5), (8, .int .i64 (outTo ws nt place who m h ((k + 1) : Int).toNat)), (48, v5), (49, .int .i64 nt), (50, .int .i64 k)] a) No 9 No := by
  refine t3_blockc (id := 3) (c := (sel [1, 1, 1, 1, 1, 0, 1, 4, 4, 1, 1, 0, 4] wyP)) ?_
  refine T3.seq (s := (sel [1, 1, 1, 1, 1, 0, 1, 4, 4, 1, 1, 0, 4, 0] wyP)) (c := (sel [1, 1, 1, 1, 1, 0, 1, 4, 4, 1, 1, 0, 4, 1] wyP)) ((wy12 w0 gl bt vw vtk nt ws who place top h c m v5 k).noX) ?_
  refine T3.seq (s := (sel [1, 1, 1, 1, 1, 0, 1, 4, 4, 1, 1, 0, 4, 1, 0] wyP)) (c := (sel [1, 1, 1, 1, 1, 0, 1, 4, 4, 1, 1, 0, 4, 1, 1] wyP)) (S := fun a w => Tk ws nt place who h k ∧ (0 ≤ k ∧ k < nt) ∧ (Wy w0 gl bt vw vtk nt ws who place top h w ∧ w.ownsRow w0.heap.size 3 1 v5 nt ((getsL ws nt h nt).map (.int .i64))) ∧ Fr 94 [(0, .pointer (some ⟨gl, 0, none⟩)), (1, .int .i64 h.length), (5, v5), (8, .int .i64 (outTo ws nt place who m h (k : Int).toNat)), (9, .int .i64 k), (10, .int .i64 (geti (getsL ws nt h nt) k)), (48, v5), (49, .int .i64 nt), (50, .int .i64 k)] a) ?_ (T3.pure fun t => T3.noX (id := 9) ?_)
  · refine T3.test (s := (sel [1, 1, 1, 1, 1, 0, 1, 4, 4, 1, 1, 0, 4, 1, 0, 0] wyP)) (x := .exit 3) (y := .skip) (C := fun q => ((0 ≤ k ∧ k < nt) ∧ q = (geti (getsL ws nt h nt) k == 0 || ((k == (who : Int)) != ((h.length : Int) == (place : Int)))))) (W := fun w => Wy w0 gl bt vw vtk nt ws who place top h w ∧ w.ownsRow w0.heap.size 3 1 v5 nt ((getsL ws nt h nt).map (.int .i64))) (by decide) ((wy13 w0 gl bt vw vtk nt ws who place top h c m v5 k).noX) (T3.exit ?_) (T3.skip ?_)
    · rintro a w ⟨hF, ⟨hp, hq⟩, hW⟩
      have hz : termF ws nt place who m h k.toNat = 0 := by
        unfold termF
        have hgf := getsL_all ws nt h k.toNat (by omega)
        rw [Int.toNat_of_nonneg hp.1] at hgf
        rw [if_pos]
        rw [← hgf]
        by_cases h0 : geti (getsL ws nt h nt) k = 0
        · exact .inl h0
        · refine .inr fun hv => ?_
          have h0' : (geti (getsL ws nt h nt) k == 0) = false := by simp [h0]
          rw [h0', Bool.false_or] at hq
          have hk0 := hp.1
          by_cases e : h.length = place
          · have e2 := hv.2 e
            have t1 : (k == (who : Int)) = true := by simp; omega
            have t2 : ((h.length : Int) == (place : Int)) = true := by simp; omega
            rw [t1, t2] at hq; cases hq
          · have e2 : ¬ k.toNat = who := fun x => e (hv.1 x)
            have t1 : (k == (who : Int)) = false := by simp; omega
            have t2 : ((h.length : Int) == (place : Int)) = false := by simp; omega
            rw [t1, t2] at hq; cases hq
      have hsx := outTo_succ ws nt place who m h k hp.1
      rw [hz, Int.add_zero] at hsx
      refine ⟨hp, hW, ?_⟩
      rw [hsx]
      exact hF.sub (by simp)
    · rintro a w ⟨⟨hp, hq⟩, hW, hF⟩
      refine ⟨?_, hp, hW, hF⟩
      have hk0 := hp.1
      have h2 := hq.symm
      rw [Bool.or_eq_false_iff] at h2
      refine ⟨by simpa using h2.1, ?_⟩
      have h3 := h2.2
      by_cases e : h.length = place
      · have t2 : ((h.length : Int) == (place : Int)) = true := by simp; omega
        rw [t2] at h3
        have h4 : (k == (who : Int)) = true := by simpa using h3
        have h5 : k = who := by simpa using h4
        exact ⟨fun _ => e, fun _ => by omega⟩
      · have t2 : ((h.length : Int) == (place : Int)) = false := by simp; omega
        rw [t2] at h3
        have h4 : (k == (who : Int)) = false := by simpa using h3
        have h5 : ¬ k = who := by simpa using h4
        exact ⟨fun x => absurd (show k = who by omega) h5, fun x => absurd x e⟩
  refine T3.seq (s := (sel [1, 1, 1, 1, 1, 0, 1, 4, 4, 1, 1, 0, 4, 1, 1, 0] wyP)) (c := (sel [1, 1, 1, 1, 1, 0, 1, 4, 4, 1, 1, 0, 4, 1, 1, 1] wyP)) (wy14 w0 gl bt vw vtk nt ws who place top h c m v5 k) ?_
  exact T3.seq (s := (sel [1, 1, 1, 1, 1, 0, 1, 4, 4, 1, 1, 0, 4, 1, 1, 1, 0] wyP)) (c := (sel [1, 1, 1, 1, 1, 0, 1, 4, 4, 1, 1, 0, 4, 1, 1, 1, 1] wyP)) (wy15 w0 gl bt vw vtk nt ws who place top h c m hm hrec v5 k t) (wy16 w0 gl bt vw vtk nt ws who place top h c m hm hrec v5 k t)

def wycI (w0 : World) (gl bt : Nat) (vw vtk : Value) (nt : Nat) (ws : List Int) (who place top : Nat) (h : List Nat) (c : Wc w0 gl bt vw vtk nt ws who place top h) (m : Nat) (hm : h.length + (m + 1) = top) (hrec : WaysC m) (v5 : Value) (k : Int) (a : Act) (w : World) : Prop := (0 ≤ k ∧ k ≤ nt) ∧ (Wy w0 gl bt vw vtk nt ws who place top h w ∧ w.ownsRow w0.heap.size 3 1 v5 nt ((getsL ws nt h nt).map (.int .i64))) ∧ Fr 94 [(0, .pointer (some ⟨gl, 0, none⟩)), (1, .int .i64 h.length), (5, v5), (8, .int .i64 (outTo ws nt place who m h (k : Int).toNat)), (48, v5), (49, .int .i64 nt), (50, .int .i64 k)] a
set_option maxRecDepth 100000 in
set_option maxHeartbeats 1000000 in
theorem wyct (w0 : World) (gl bt : Nat) (vw vtk : Value) (nt : Nat) (ws : List Int) (who place top : Nat) (h : List Nat) (c : Wc w0 gl bt vw vtk nt ws who place top h) (m : Nat) (hm : h.length + (m + 1) = top) (hrec : WaysC m) (v5 : Value) (k : Int) : T3 Try.prog (fun a w => wycI w0 gl bt vw vtk nt ws who place top h c m hm hrec v5 k a w) (sel [1, 1, 1, 1, 1, 0, 1, 4, 4, 0] wyP) (fun a w => ∃ q, Fr 94 ((51, .bool q) :: [(50, .int .i64 k)]) a ∧ ((q = true ↔ k < nt) ∧ wycI w0 gl bt vw vtk nt ws who place top h c m hm hrec v5 k a w)) No 9 No := by
  refine T3.leaf ?_
  rintro Q JS JX JT K hS hK hX hE hT hR a w ⟨hk, hW, ⟨fr, rfl, q0, q1, q5, q8, q48, q49, q50, _⟩⟩
  have n14 := c.f.n14
  rw [fr_wyP, show fr 0 = _ from q0, show fr 1 = _ from q1, show fr 5 = _ from q5, show fr 8 = _ from q8, show fr 48 = _ from q48, show fr 49 = _ from q49, show fr 50 = _ from q50]
  clear q0 q1 q5 q8 q48 q49 q50
  conv => arg 2; whnf
  by_cases hlt : k < nt
  · go_wp2_with fail
    refine Met.intro (hS _ _ ?_)
    exact ⟨true, Fr.of _ rfl ⟨rfl, rfl, trivial⟩, ⟨fun _ => hlt, fun _ => rfl⟩, hk, hW, Fr.of _ rfl ⟨rfl, rfl, rfl, rfl, rfl, rfl, rfl, trivial⟩⟩
  · have hpb : decide (k < (nt)) = false := by simp; omega
    go_wp2_with fail
    refine Met.intro (hS _ _ ?_)
    exact ⟨false, Fr.of _ rfl ⟨rfl, rfl, trivial⟩, ⟨(fun h => by cases h), fun h => absurd h (by omega)⟩, hk, hW, Fr.of _ rfl ⟨rfl, rfl, rfl, rfl, rfl, rfl, rfl, trivial⟩⟩

set_option maxRecDepth 100000 in
set_option maxHeartbeats 1000000 in
theorem wycn (w0 : World) (gl bt : Nat) (vw vtk : Value) (nt : Nat) (ws : List Int) (who place top : Nat) (h : List Nat) (c : Wc w0 gl bt vw vtk nt ws who place top h) (m : Nat) (hm : h.length + (m + 1) = top) (hrec : WaysC m) (v5 : Value) (k : Int) : T3 Try.prog (fun a w => (0 ≤ k ∧ k < nt) ∧ (Wy w0 gl bt vw vtk nt ws who place top h w ∧ w.ownsRow w0.heap.size 3 1 v5 nt ((getsL ws nt h nt).map (.int .i64))) ∧ Fr 94 [(0, .pointer (some ⟨gl, 0, none⟩)), (1, .int .i64 h.length), (5, v5), (8, .int .i64 (outTo ws nt place who m h ((k + 1) : Int).toNat)), (48, v5), (49, .int .i64 nt), (50, .int .i64 k)] a) (sel [1, 1, 1, 1, 1, 0, 1, 4, 4, 1, 1, 1] wyP) (fun a w => wycI w0 gl bt vw vtk nt ws who place top h c m hm hrec v5 (k + 1) a w) No 9 No := by
  refine T3.leaf ?_
  rintro Q JS JX JT K hS hK hX hE hT hR a w ⟨hk, hW, ⟨fr, rfl, q0, q1, q5, q8, q48, q49, q50, _⟩⟩
  obtain ⟨hk0, hk1⟩ := hk
  have n14 := c.f.n14
  rw [fr_wyP, show fr 0 = _ from q0, show fr 1 = _ from q1, show fr 5 = _ from q5, show fr 8 = _ from q8, show fr 48 = _ from q48, show fr 49 = _ from q49, show fr 50 = _ from q50]
  clear q0 q1 q5 q8 q48 q49 q50
  conv => arg 2; whnf
  go_wp2_with fail
  refine Met.intro (hS _ _ ?_)
  exact ⟨⟨by omega, by omega⟩, hW, Fr.of _ rfl ⟨rfl, rfl, rfl, rfl, rfl, rfl, rfl, trivial⟩⟩

set_option maxRecDepth 100000 in
set_option maxHeartbeats 1000000 in
theorem wycloop (w0 : World) (gl bt : Nat) (vw vtk : Value) (nt : Nat) (ws : List Int) (who place top : Nat) (h : List Nat) (c : Wc w0 gl bt vw vtk nt ws who place top h) (m : Nat) (hm : h.length + (m + 1) = top) (hrec : WaysC m) (v5 : Value) : T3 Try.prog (fun a w => wycI w0 gl bt vw vtk nt ws who place top h c m hm hrec v5 0 a w) (sel [1, 1, 1, 1, 1, 0, 1] wyP) (fun a w => (Wy w0 gl bt vw vtk nt ws who place top h w) ∧ Fr 94 [(0, .pointer (some ⟨gl, 0, none⟩)), (1, .int .i64 h.length), (8, .int .i64 (wayF (fun i => geti ws (i : Int)) nt place who (m + 1) h))] a) No 9 No := by
  refine T3.loop (c := (sel [1, 1, 1, 1, 1, 0, 1, 4, 4] wyP)) (fun ng_ a w => ∃ k : Int, (ng_ : Int) = nt - k ∧ wycI w0 gl bt vw vtk nt ws who place top h c m hm hrec v5 k a w) (fun a w h => ⟨(nt : Int).toNat, 0, by have := h.1.2; omega, h⟩) (fun ng_ => T3.ex fun k => T3.pure fun hng_ => ?_)
  refine T3.seq (s := (sel [1, 1, 1, 1, 1, 0, 1, 4, 4, 0] wyP)) (c := (sel [1, 1, 1, 1, 1, 0, 1, 4, 4, 1] wyP)) ((wyct w0 gl bt vw vtk nt ws who place top h c m hm hrec v5 k).noX) ?_
  refine T3.seq (s := (sel [1, 1, 1, 1, 1, 0, 1, 4, 4, 1, 0] wyP)) (c := (sel [1, 1, 1, 1, 1, 0, 1, 4, 4, 1, 1] wyP)) (S := fun a w => (0 ≤ k ∧ k < nt) ∧ (Wy w0 gl bt vw vtk nt ws who place top h w ∧ w.ownsRow w0.heap.size 3 1 v5 nt ((getsL ws nt h nt).map (.int .i64))) ∧ Fr 94 [(0, .pointer (some ⟨gl, 0, none⟩)), (1, .int .i64 h.length), (5, v5), (8, .int .i64 (outTo ws nt place who m h (k : Int).toNat)), (48, v5), (49, .int .i64 nt), (50, .int .i64 k)] a) ?_ (T3.seq (s := (sel [1, 1, 1, 1, 1, 0, 1, 4, 4, 1, 1, 0] wyP)) (c := (sel [1, 1, 1, 1, 1, 0, 1, 4, 4, 1, 1, 1] wyP)) (S := fun a w => (0 ≤ k ∧ k < nt) ∧ (Wy w0 gl bt vw vtk nt ws who place top h w ∧ w.ownsRow w0.heap.size 3 1 v5 nt ((getsL ws nt h nt).map (.int .i64))) ∧ Fr 94 [(0, .pointer (some ⟨gl, 0, none⟩)), (1, .int .i64 h.length), (5, v5), (8, .int .i64 (outTo ws nt place who m h ((k + 1) : Int).toNat)), (48, v5), (49, .int .i64 nt), (50, .int .i64 k)] a) (T3.noX (wyd w0 gl bt vw vtk nt ws who place top h c m hm hrec v5 k)) ?_)
  · refine T3.cond (o := .tmp 51) (x := .skip) (y := .exit 2) (fun a w => k < nt ∧ wycI w0 gl bt vw vtk nt ws who place top h c m hm hrec v5 k a w) (fun a w => ¬ k < nt ∧ wycI w0 gl bt vw vtk nt ws who place top h c m hm hrec v5 k a w) ?_ (T3.skip ?_) (T3.exit ?_)
    · rintro a w ⟨q, hF, hq, hI⟩
      have he := hF.eval 51 (by decide) (v := .bool q) (by simp)
      cases q
      · exact .inr ⟨he, (fun h => by have := hq.2 h; cases this), hI⟩
      · exact .inl ⟨he, hq.1 rfl, hI⟩
    · rintro a w ⟨hlt, hk, hI⟩
      exact ⟨⟨hk.1, hlt⟩, hI⟩
    · rintro a w ⟨hlt, hk, hI⟩
      obtain rfl : k = nt := by omega
      obtain ⟨hW, hF⟩ := hI
      rw [show ((nt : Nat) : Int).toNat = nt by omega, outTo_all] at hF
      exact ⟨hW.1, hF.sub (by simp)⟩
  · intro a w hx
    have hk := hx.1
    exact (((wycn w0 gl bt vw vtk nt ws who place top h c m hm hrec v5 k).noX).post (fun a w q => ⟨ng_ - 1, by omega, k + 1, by omega, q⟩)) a w hx
set_option maxRecDepth 100000 in
set_option maxHeartbeats 1000000 in
theorem wy18 (w0 : World) (gl bt : Nat) (vw vtk : Value) (nt : Nat) (ws : List Int) (who place top : Nat) (h : List Nat) (c : Wc w0 gl bt vw vtk nt ws who place top h) (m : Nat) (hm : h.length + (m + 1) = top) (hrec : WaysC m) : T3 Try.prog (fun a w => (Wy w0 gl bt vw vtk nt ws who place top h w) ∧ Fr 94 [(0, .pointer (some ⟨gl, 0, none⟩)), (1, .int .i64 h.length), (8, .int .i64 (wayF (fun i => geti ws (i : Int)) nt place who (m + 1) h))] a) (sel [1, 1, 1, 1, 1, 1, 0] wyP) (fun a w => (Wy w0 gl bt vw vtk nt ws who place top h w) ∧ Fr 94 [(4, .int .i64 (wayF (fun i => geti ws (i : Int)) nt place who (m + 1) h))] a) No 9 No := by
  refine T3.leaf ?_
  rintro Q JS JX JT K hS hK hX hE hT hR a w ⟨hW, ⟨fr, rfl, q0, q1, q8, _⟩⟩
  rw [fr_wyP, show fr 0 = _ from q0, show fr 1 = _ from q1, show fr 8 = _ from q8]
  clear q0 q1 q8
  conv => arg 2; whnf
  go_wp2_with fail
  refine Met.intro (hS _ _ ?_)
  exact ⟨hW, Fr.of _ rfl ⟨rfl, trivial⟩⟩

set_option maxRecDepth 100000 in
set_option maxHeartbeats 1000000 in
theorem wy0 (w0 : World) (gl bt : Nat) (vw vtk : Value) (nt : Nat) (ws : List Int) (who place top : Nat) (h : List Nat) (f : WF nt ws who place top) : T3 Try.prog (fun a w => (Wy w0 gl bt vw vtk nt ws who place top h w) ∧ Fr 94 [(0, .pointer (some ⟨gl, 0, none⟩)), (1, .int .i64 h.length)] a) (sel [0] wyP) (fun a w => (Wy w0 gl bt vw vtk nt ws who place top h w) ∧ Fr 94 [(0, .pointer (some ⟨gl, 0, none⟩)), (1, .int .i64 h.length)] a) No 9 No := by
  refine T3.leaf ?_
  rintro Q JS JX JT K hS hK hX hE hT hR a w ⟨hW, ⟨fr, rfl, q0, q1, _⟩⟩
  rw [fr_wyP, show fr 0 = _ from q0, show fr 1 = _ from q1]
  clear q0 q1
  conv => arg 2; whnf
  go_wp2_with fail
  refine Met.intro (hS _ _ ?_)
  exact ⟨hW, Fr.of _ rfl ⟨rfl, rfl, trivial⟩⟩

set_option maxRecDepth 100000 in
set_option maxHeartbeats 1000000 in
theorem wy1 (w0 : World) (gl bt : Nat) (vw vtk : Value) (nt : Nat) (ws : List Int) (who place top : Nat) (h : List Nat) (f : WF nt ws who place top) : T3 Try.prog (fun a w => (Wy w0 gl bt vw vtk nt ws who place top h w) ∧ Fr 94 [(0, .pointer (some ⟨gl, 0, none⟩)), (1, .int .i64 h.length)] a) (sel [1, 0, 0] wyP) (fun a w => ∃ q, Fr 94 ((16, .bool q) :: [(0, .pointer (some ⟨gl, 0, none⟩)), (1, .int .i64 h.length)]) a ∧ ((q = ((h.length : Int) == (top : Int))) ∧ Wy w0 gl bt vw vtk nt ws who place top h w)) No 9 No := by
  refine T3.leaf ?_
  rintro Q JS JX JT K hS hK hX hE hT hR a w ⟨hW, ⟨fr, rfl, q0, q1, _⟩⟩
  have x3 := hW.c3
  rw [fr_wyP, show fr 0 = _ from q0, show fr 1 = _ from q1]
  clear q0 q1
  conv => arg 2; whnf
  go_wp2_with fail
  refine Met.intro (hS _ _ ?_)
  exact ⟨_, Fr.of _ rfl ⟨rfl, rfl, rfl, trivial⟩, rfl, hW⟩

set_option maxRecDepth 100000 in
set_option maxHeartbeats 1000000 in
theorem wy2 (w0 : World) (gl bt : Nat) (vw vtk : Value) (nt : Nat) (ws : List Int) (who place top : Nat) (h : List Nat) (f : WF nt ws who place top) (hh : Have nt h) (ht : h.length = top) : T3 Try.prog (fun a w => (Wy w0 gl bt vw vtk nt ws who place top h w) ∧ Fr 94 [(0, .pointer (some ⟨gl, 0, none⟩)), (1, .int .i64 h.length)] a) (sel [1, 0, 1, 2, 0] wyP) (fun a w => (Wy w0 gl bt vw vtk nt ws who place top h w) ∧ Fr 94 [(4, .int .i64 (othersF place who h))] a) No 9 No := by
  refine T3.leaf ?_
  rintro Q JS JX JT K hS hK hX hE hT hR a w ⟨hW, ⟨fr, rfl, q0, q1, _⟩⟩
  have HW := Lib.hid hW
  have hp := others_prog w gl vw who place top vtk nt h ⟨hW.c0, hW.c1, hW.c2, hW.c3, hW.c4, (Row.of_owns hW.tk).mono (Nat.zero_le _), f.hw, by have := f.n14; omega, by have := f.ht; omega⟩ ht
  have HP := Lib.hid hp
  clear hp hW
  rw [fr_wyP, show fr 0 = _ from q0, show fr 1 = _ from q1]
  clear q0 q1
  conv => arg 2; whnf
  go_wp2_with fail
  refine HP.out.mono ?_
  rintro e w1 ⟨rfl, hB⟩
  have HB := Lib.hid hB
  clear hB
  go_wp2_with fail
  refine Met.intro (hS _ _ ?_)
  exact ⟨HW.out.below HB.out, Fr.of _ rfl ⟨rfl, trivial⟩⟩

theorem ways_zero : WaysC 0 := by
  intro w0 gl bt vw vtk nt ws who place top h f hh hm g0 wv tv hY
  have hall : T3 Try.prog (fun a w => (Wy w0 gl bt vw vtk nt ws who place top h w) ∧ Fr 94 [(0, .pointer (some ⟨gl, 0, none⟩)), (1, .int .i64 h.length)] a) wyP No No 9 (fun a w => Fr 94 [(4, .int .i64 (othersF place who h))] a ∧ Wy w0 gl bt vw vtk nt ws who place top h w) := by
    refine T3.seq (s := (sel [0] wyP)) (c := (sel [1] wyP)) ((wy0 w0 gl bt vw vtk nt ws who place top h f).mono (fun _ _ q => q) (fun _ _ q => q) (fun _ _ q => q.elim) (fun _ _ q => q)) ?_
    refine T3.seq (s := (sel [1, 0] wyP)) (c := (sel [1, 1] wyP)) (S := No) ?_ (fun a w q => q.elim)
    refine T3.test (s := (sel [1, 0, 0] wyP)) (x := (sel [1, 0, 1, 2] wyP)) (y := .skip) (C := fun q => (q = ((h.length : Int) == (top : Int)))) (W := fun w => Wy w0 gl bt vw vtk nt ws who place top h w) (by decide) ((wy1 w0 gl bt vw vtk nt ws who place top h f).mono (fun _ _ q => q) (fun _ _ q => q) (fun _ _ q => q.elim) (fun _ _ q => q)) ?_ (T3.skip ?_)
    · refine T3.seq (s := (sel [1, 0, 1, 2, 0] wyP)) (c := .ret) (S := fun a w => (Wy w0 gl bt vw vtk nt ws who place top h w) ∧ Fr 94 [(4, .int .i64 (othersF place who h))] a) ?_ (T3.ret fun a w q => ⟨q.2, q.1⟩)
      refine (wy2 w0 gl bt vw vtk nt ws who place top h f hh (by omega)).mono ?_ (fun _ _ q => q) (fun _ _ q => q.elim) (fun _ _ q => q)
      rintro a w ⟨hF, hq, hW⟩
      exact ⟨hW, hF.tail⟩
    · rintro a w ⟨hq, hW, hF⟩
      have : ¬ (h.length : Int) = top := by simpa using hq.symm
      omega
  go_enter Try.func44, Try.ntmps44
  refine T3.done (s := wyP) hall ⟨hY, Fr.of _ rfl ⟨rfl, rfl, trivial⟩⟩ ?_
  rintro a w ⟨⟨fr, rfl, q4, _⟩, hW⟩
  rw [fr_wyP, show fr 4 = _ from q4]
  go_ret
  exact ⟨rfl, hW⟩
theorem ways_succ (m : Nat) (hrec : WaysC m) : WaysC (m + 1) := by
  intro w0 gl bt vw vtk nt ws who place top h f hh hm g0 wv tv hY
  have c : Wc w0 gl bt vw vtk nt ws who place top h := ⟨f, hh, by omega, g0, wv, tv⟩
  have hall : T3 Try.prog (fun a w => (Wy w0 gl bt vw vtk nt ws who place top h w) ∧ Fr 94 [(0, .pointer (some ⟨gl, 0, none⟩)), (1, .int .i64 h.length)] a) wyP No No 9 (fun a w => Fr 94 [(4, .int .i64 (wayF (fun i => geti ws (i : Int)) nt place who (m + 1) h))] a ∧ Wy w0 gl bt vw vtk nt ws who place top h w) := by
    refine T3.seq (s := (sel [0] wyP)) (c := (sel [1] wyP)) ((wy0 w0 gl bt vw vtk nt ws who place top h f).mono (fun _ _ q => q) (fun _ _ q => q) (fun _ _ q => q.elim) (fun _ _ q => q)) ?_
    refine T3.seq (s := (sel [1, 0] wyP)) (c := (sel [1, 1] wyP)) (S := fun a w => (Wy w0 gl bt vw vtk nt ws who place top h w) ∧ Fr 94 [(0, .pointer (some ⟨gl, 0, none⟩)), (1, .int .i64 h.length)] a) ?_ ?_
    · refine T3.test (s := (sel [1, 0, 0] wyP)) (x := (sel [1, 0, 1, 2] wyP)) (y := .skip) (C := fun q => (q = ((h.length : Int) == (top : Int)))) (W := fun w => Wy w0 gl bt vw vtk nt ws who place top h w) (by decide) ((wy1 w0 gl bt vw vtk nt ws who place top h f).mono (fun _ _ q => q) (fun _ _ q => q) (fun _ _ q => q.elim) (fun _ _ q => q)) (fun a w q => ?_) (T3.skip fun a w q => q.2)
      have := q.2.1
      have : (h.length : Int) = top := by simpa using this.symm
      omega
    refine T3.seq (s := (sel [1, 1, 0] wyP)) (c := (sel [1, 1, 1] wyP)) ((wy3 w0 gl bt vw vtk nt ws who place top h c).mono (fun _ _ q => q) (fun _ _ q => q) (fun _ _ q => q.elim) (fun _ _ q => q)) ?_
    refine T3.seq (s := (sel [1, 1, 1, 0] wyP)) (c := (sel [1, 1, 1, 1] wyP)) (T3.seq (s := (sel [1, 1, 1, 0, 0] wyP)) (c := (sel [1, 1, 1, 0, 1] wyP)) ((wy4 w0 gl bt vw vtk nt ws who place top h c).mono (fun _ _ q => q) (fun _ _ q => q) (fun _ _ q => q.elim) (fun _ _ q => q)) ((wyaloop w0 gl bt vw vtk nt ws who place top h c).mono (fun _ _ q => q) (fun _ _ q => q) (fun _ _ q => q.elim) (fun _ _ q => q))) ?_
    refine T3.ex fun v5 => ?_
    refine T3.seq (s := (sel [1, 1, 1, 1, 0] wyP)) (c := (sel [1, 1, 1, 1, 1] wyP)) ((wy9 w0 gl bt vw vtk nt ws who place top h c m v5).mono (fun _ _ q => q) (fun _ _ q => q) (fun _ _ q => q.elim) (fun _ _ q => q)) ?_
    refine T3.seq (s := (sel [1, 1, 1, 1, 1, 0] wyP)) (c := (sel [1, 1, 1, 1, 1, 1] wyP)) (T3.seq (s := (sel [1, 1, 1, 1, 1, 0, 0] wyP)) (c := (sel [1, 1, 1, 1, 1, 0, 1] wyP)) ((wy10 w0 gl bt vw vtk nt ws who place top h c m v5).mono (fun _ _ q => q) (fun _ _ q => q) (fun _ _ q => q.elim) (fun _ _ q => q)) ((wycloop w0 gl bt vw vtk nt ws who place top h c m hm hrec v5).mono (fun _ _ q => q) (fun _ _ q => q) (fun _ _ q => q.elim) (fun _ _ q => q))) ?_
    refine T3.seq (s := (sel [1, 1, 1, 1, 1, 1, 0] wyP)) (c := .ret) ((wy18 w0 gl bt vw vtk nt ws who place top h c m hm hrec).mono (fun _ _ q => q) (fun _ _ q => q) (fun _ _ q => q.elim) (fun _ _ q => q)) (T3.ret fun a w q => ⟨q.2, q.1⟩)
  go_enter Try.func44, Try.ntmps44
  refine T3.done (s := wyP) hall ⟨hY, Fr.of _ rfl ⟨rfl, rfl, trivial⟩⟩ ?_
  rintro a w ⟨⟨fr, rfl, q4, _⟩, hW⟩
  rw [fr_wyP, show fr 4 = _ from q4]
  go_ret
  exact ⟨rfl, hW⟩
theorem ways_all : ∀ m, WaysC m
  | 0 => ways_zero
  | m + 1 => ways_succ m (ways_all m)
end Go.Proofs.Ytkdimgghljklmaa
/-
  Fractions: the program's and the reference's reckoning. Conditions: the bounds on numbers that each theorem names.
-/
set_option linter.unusedVariables false
namespace Go.Bw
open Go.RowKit
theorem gcd_tmod (a b : Int) : Int.gcd b (a.tmod b) = Int.gcd a b := by
  unfold Int.gcd
  rw [Int.natAbs_tmod, Nat.gcd_comm, ← Nat.gcd_rec, Nat.gcd_comm]
theorem gcd_emod (a b : Int) (h : 0 ≤ a) : Int.gcd b (a % b) = Int.gcd a b := by
  rw [← Int.tmod_eq_emod_of_nonneg h, gcd_tmod]
theorem gcd_zero {a : Int} : Int.gcd a 0 = a.natAbs := by simp [Int.gcd]
theorem gcd_neg' (a b : Int) : Int.gcd (-a) b = Int.gcd a b := by simp [Int.gcd]
theorem gcd_abs (a b : Int) : Int.gcd (max a (-a)) b = Int.gcd a b := by
  by_cases h : 0 ≤ a
  · rw [Int.max_eq_left (by omega)]
  · rw [Int.max_eq_right (by omega), gcd_neg']
theorem wrap_neg_u64 {x : Int} (h1 : -9223372036854775808 ≤ x) (h2 : x < 0) : IntKind.u64.wrap (-IntKind.u64.wrap x) = -x := by
  have e : ∀ y : Int, IntKind.u64.wrap y = y % 18446744073709551616 := fun y => rfl
  rw [e, e]
  omega
theorem frozen_new0 (w : World) (cs : Array Value) (e : TypeId) (i : Nat) : (w.alloc (.cells cs e)).frozen? ⟨w.heap.size, i, none⟩ = false := by
  unfold World.frozen?
  rw [heap_alloc_new]
  simp
/-- A block of two cells that was laid, seen behind a call that left it alone. -/
theorem fresh2 (w w1 : World) (e : TypeId) (x0 y0 : Value) (hb : Below (w.alloc (.cells #[x0, y0] e)).heap.size (w.alloc (.cells #[x0, y0] e)) w1) :
    w1.cell? ⟨w.heap.size, 0, none⟩ = some x0 ∧ w1.cell? ⟨w.heap.size, 1, none⟩ = some y0 ∧ w1.frozen? ⟨w.heap.size, 0, none⟩ = false ∧ w1.frozen? ⟨w.heap.size, 1, none⟩ = false ∧ w.heap.size < w1.heap.size ∧
    (∀ x y, ((w1.setCell ⟨w.heap.size, 0, none⟩ x).setCell ⟨w.heap.size, 1, none⟩ y).cell? ⟨w.heap.size, 0, none⟩ = some x) ∧
    (∀ x y, ((w1.setCell ⟨w.heap.size, 0, none⟩ x).setCell ⟨w.heap.size, 1, none⟩ y).cell? ⟨w.heap.size, 1, none⟩ = some y) ∧
    (∀ x y, Below w.heap.size w ((w1.setCell ⟨w.heap.size, 0, none⟩ x).setCell ⟨w.heap.size, 1, none⟩ y)) := by
  have hlt : w.heap.size < (w.alloc (.cells #[x0, y0] e)).heap.size := by simp
  have k0 := (hb.cell (p := ⟨w.heap.size, 0, none⟩) hlt).trans (cells_new w #[x0, y0] e 0 _ rfl)
  have k1 := (hb.cell (p := ⟨w.heap.size, 1, none⟩) hlt).trans (cells_new w #[x0, y0] e 1 _ rfl)
  have hw := ((Below.refl w.heap.size w).alloc (Nat.le_refl _) (.cells #[x0, y0] e)).trans (hb.mono (Nat.le_of_lt hlt))
  refine ⟨k0, k1, (hb.frozen (p := ⟨w.heap.size, 0, none⟩) hlt).trans (frozen_new0 _ _ _ _), (hb.frozen (p := ⟨w.heap.size, 1, none⟩) hlt).trans (frozen_new0 _ _ _ _), Nat.lt_of_lt_of_le hlt hb.size, fun x y => ?_, fun x y => ?_, fun x y => (hw.setCell (Nat.le_refl _) _).setCell (Nat.le_refl _) _⟩
  · rw [World.cell?_setCell_other _ _ _ _ (by simp)]
    exact World.cell?_setCell_same' _ _ _ (by rw [k0]; rfl)
  · exact World.cell?_setCell_same' _ _ _ (by rw [World.cell?_setCell_other _ _ _ _ (by simp), k1]; rfl)
theorem mul_small (x q : Int) (h1 : -1000000000000000 ≤ x) (h2 : x ≤ 1000000000000000) (h3 : 0 ≤ q) (h4 : q ≤ 100) : -100000000000000000 ≤ x * q ∧ x * q ≤ 100000000000000000 := by
  have a := Int.mul_le_mul_of_nonneg_right h1 h3
  have b := Int.mul_le_mul_of_nonneg_right h2 h3
  omega
end Go.Bw
namespace Go.Proofs.Ytkdimgghljklmaa
open Go.RowKit Go.Bw

set_option maxRecDepth 100000 in
set_option maxHeartbeats 1000000 in
theorem gcd_any (a b : Int) (w : World) (h1 : 0 ≤ a) (h2 : a ≤ 9223372036854775807) (h3 : 0 ≤ b) (h4 : b ≤ 9223372036854775807) :
    Calls Try.prog 74 #[.int .i64 a, .int .i64 b] w fun e w' => e = .returned (.int .i64 (Int.gcd a b)) ∧ Below w.heap.size w w' := by
  have hw0 := Below.refl w.heap.size w
  obtain ⟨G, hG⟩ : ∃ G, G = Int.gcd a b := ⟨_, rfl⟩
  rw [← hG]
  have HG := Lib.hid hG.symm
  clear hG
  go_enter Try.func74, Try.ntmps74
  go_wp2_with fail
  go_loopw [0, 1] (fun s t wr => ∃ x y : Int, 0 ≤ x ∧ x ≤ 9223372036854775807 ∧ 0 ≤ y ∧ y ≤ 9223372036854775807 ∧ Hid (Int.gcd x y = G) ∧ s = .int .i64 x ∧ t = .int .i64 y ∧ Below w.heap.size w wr) (fun _ t _ => (intOf t).toNat)
  case atStart => exact ⟨a, b, h1, h2, h3, h4, HG, rfl, rfl, hw0⟩
  case round =>
    obtain ⟨x, y, hx0, hx1, hy0, hy1, hg, rfl, rfl, hb⟩ := hrel
    by_cases hy : y = 0
    · have hx : (G : Int) = x := by rw [← hg.out, hy, gcd_zero]; omega
      subst hy
      have Hx := Lib.hid hx
      clear hx
      go_wp2_with fail
      go_ret
      exact ⟨ret_int Hx.out.symm, hb⟩
    · have hyb : (y == 0) = false := by simp [hy]
      have hst : Hid (Int.gcd y (x % y) = G) := Lib.hid (by rw [gcd_emod _ _ hx0]; exact hg.out)
      have hm0 : 0 ≤ x % y := Int.emod_nonneg _ hy
      have hm1 : x % y < y := Int.emod_lt_of_pos _ (by omega)
      clear hg
      go_wp2_with fail
      go_quiet (fail)
      go_wp2_with fail
      go_roundw
      case rel => exact ⟨y, x % y, by omega, by omega, by omega, by omega, hst, rfl, rfl, below_drewN hb _⟩
      case measure => simp [intOf]; omega

set_option maxRecDepth 100000 in
set_option maxHeartbeats 1000000 in
theorem lowest_any (num den : Int) (w : World) (h1 : -9223372036854775808 ≤ num) (h2 : num ≤ 9223372036854775807) (h3 : 1 ≤ den) (h4 : den ≤ 9223372036854775807) :
    Calls Try.prog 87 #[.agg #[.int .i64 num, .int .i64 den]] w fun e w' => e = .returned (.bool (decide (Int.gcd num den = 1))) ∧ Below w.heap.size w w' := by
  have hw0 := Below.refl w.heap.size w
  obtain ⟨G, hG⟩ : ∃ G, G = Int.gcd num den := ⟨_, rfl⟩
  rw [← hG]
  have HG := Lib.hid hG.symm
  clear hG
  have HA : Hid (Int.gcd num.natAbs den = G) := Lib.hid (by rw [← HG.out]; simp [Int.gcd])
  by_cases hn : num < 0
  · have HW := Lib.hid (wrap_neg_u64 h1 hn)
    have hG2 : Hid (Int.gcd (-num) den = G) := Lib.hid (by rw [gcd_neg']; exact HG.out)
    go_enter Try.func87, Try.ntmps87
    go_wp2_with fail
    go_quiet (fail)
    go_wp2_with fail
    go_loopw [3, 4] (fun s t wr => ∃ x y : Int, 0 ≤ x ∧ x ≤ 9223372036854775808 ∧ 0 ≤ y ∧ y ≤ 9223372036854775807 ∧ Hid (Int.gcd x y = G) ∧ s = .int .u64 x ∧ t = .int .u64 y ∧ Below w.heap.size w wr) (fun _ t _ => (intOf t).toNat)
    case atStart => exact ⟨-num, den, by omega, by omega, by omega, h4, hG2, by rw [HW.out], rfl, below_drewN (hw0.alloc (Nat.le_refl _) _) _⟩
    case round =>
      obtain ⟨x, y, hx0, hx1, hy0, hy1, hg, rfl, rfl, hb⟩ := hrel
      by_cases hy : y = 0
      · have hx : (G : Int) = x := by rw [← hg.out, hy, gcd_zero]; omega
        subst hy
        have Hx := Lib.hid hx
        clear hx
        go_wp2_with fail
        go_ret
        exact ⟨ret_bool (by rw [← Hx.out]; by_cases hG : G = 1 <;> simp [hG] <;> omega), hb⟩
      · have hyb : (y == 0) = false := by simp [hy]
        have hst : Hid (Int.gcd y (x % y) = G) := Lib.hid (by rw [gcd_emod _ _ hx0]; exact hg.out)
        have hm0 : 0 ≤ x % y := Int.emod_nonneg _ hy
        have hm1 : x % y < y := Int.emod_lt_of_pos _ (by omega)
        clear hg
        go_wp2_with fail
        go_quiet (fail)
        go_wp2_with fail
        go_roundw
        case rel => exact ⟨y, x % y, by omega, by omega, by omega, by omega, hst, rfl, rfl, below_drewN hb _⟩
        case measure => simp [intOf]; omega
  · go_enter Try.func87, Try.ntmps87
    go_wp2_with fail
    go_quiet (fail)
    go_wp2_with fail
    go_loopw [3, 4] (fun s t wr => ∃ x y : Int, 0 ≤ x ∧ x ≤ 9223372036854775808 ∧ 0 ≤ y ∧ y ≤ 9223372036854775807 ∧ Hid (Int.gcd x y = G) ∧ s = .int .u64 x ∧ t = .int .u64 y ∧ Below w.heap.size w wr) (fun _ t _ => (intOf t).toNat)
    case atStart => exact ⟨num, den, by omega, by omega, by omega, h4, HG, rfl, rfl, below_drewN (hw0.alloc (Nat.le_refl _) _) _⟩
    case round =>
      obtain ⟨x, y, hx0, hx1, hy0, hy1, hg, rfl, rfl, hb⟩ := hrel
      by_cases hy : y = 0
      · have hx : (G : Int) = x := by rw [← hg.out, hy, gcd_zero]; omega
        subst hy
        have Hx := Lib.hid hx
        clear hx
        go_wp2_with fail
        go_ret
        exact ⟨ret_bool (by rw [← Hx.out]; by_cases hG : G = 1 <;> simp [hG] <;> omega), hb⟩
      · have hyb : (y == 0) = false := by simp [hy]
        have hst : Hid (Int.gcd y (x % y) = G) := Lib.hid (by rw [gcd_emod _ _ hx0]; exact hg.out)
        have hm0 : 0 ≤ x % y := Int.emod_nonneg _ hy
        have hm1 : x % y < y := Int.emod_lt_of_pos _ (by omega)
        clear hg
        go_wp2_with fail
        go_quiet (fail)
        go_wp2_with fail
        go_roundw
        case rel => exact ⟨y, x % y, by omega, by omega, by omega, by omega, hst, rfl, rfl, below_drewN hb _⟩
        case measure => simp [intOf]; omega

set_option maxRecDepth 100000 in
set_option maxHeartbeats 1000000 in
/-- divisor: of a number and one above 0. -/
theorem divisor_any (a b : Int) (w : World) (h1 : -9223372036854775808 ≤ a) (h2 : a ≤ 9223372036854775807) (h3 : 1 ≤ b) (h4 : b ≤ 9223372036854775807) :
    Calls Try.prog 78 #[.int .i64 a, .int .i64 b] w fun e w' => e = .returned (.int .i64 (Int.gcd a b)) ∧ Below w.heap.size w w' := by
  have hw0 := Below.refl w.heap.size w
  obtain ⟨G, hG⟩ : ∃ G, G = Int.gcd a b := ⟨_, rfl⟩
  rw [← hG]
  have HG := Lib.hid hG.symm
  clear hG
  go_enter Try.func78, Try.ntmps78
  go_wp2_with fail
  go_loopw [0, 1] (fun s t wr => ∃ x y : Int, -9223372036854775808 ≤ x ∧ x ≤ 9223372036854775807 ∧ -9223372036854775807 ≤ y ∧ y ≤ 9223372036854775807 ∧ (y = 0 → -9223372036854775807 ≤ x) ∧ Hid (Int.gcd x y = G) ∧ s = .int .i64 x ∧ t = .int .i64 y ∧ Below w.heap.size w wr) (fun _ t _ => (intOf t).natAbs)
  case atStart => exact ⟨a, b, h1, h2, by omega, h4, by omega, HG, rfl, rfl, hw0⟩
  case round =>
    obtain ⟨x, y, hx0, hx1, hy0, hy1, hxy, hg, rfl, rfl, hb⟩ := hrel
    by_cases hy : y = 0
    · have hx : (G : Int) = max x (-x) := by rw [← hg.out, hy, gcd_zero]; omega
      have hx2 := hxy hy
      subst hy
      have Hx := Lib.hid hx
      clear hx hxy
      go_wp2_with fail
      go_ret
      exact ⟨ret_int Hx.out.symm, hb⟩
    · have hyb : (y == 0) = false := by simp [hy]
      have hst : Hid (Int.gcd y (x.tmod y) = G) := Lib.hid (by rw [gcd_tmod]; exact hg.out)
      have hna : (x.tmod y).natAbs < y.natAbs := by rw [Int.natAbs_tmod]; exact Nat.mod_lt _ (by omega)
      have hm0 : -9223372036854775807 ≤ x.tmod y := by omega
      have hm1 : x.tmod y ≤ 9223372036854775807 := by omega
      clear hg hxy
      go_wp2_with fail
      go_quiet (fail)
      go_wp2_with fail
      go_roundw
      case rel => exact ⟨y, x.tmod y, by omega, by omega, by omega, by omega, by omega, hst, rfl, rfl, below_drewN hb _⟩
      case measure => exact hna

/-- So many hundredths, in lowest terms. -/
def ofHn (n : Int) : Int := n / (Int.gcd n 100 : Int)
def ofHd (n : Int) : Int := 100 / (Int.gcd n 100 : Int)

theorem gcd100 (n : Int) : 1 ≤ (Int.gcd n 100 : Int) ∧ (Int.gcd n 100 : Int) ≤ 100 := by
  have h0 : 0 < Int.gcd n 100 := Int.gcd_pos_of_ne_zero_right _ (by decide)
  have h1 : Int.gcd n 100 ∣ 100 := by have := Int.gcd_dvd_right n 100; exact_mod_cast this
  have := Nat.le_of_dvd (by decide) h1
  omega

theorem ofH_quo (n : Int) : n.tdiv (Int.gcd n 100 : Int) = ofHn n := by
  unfold ofHn
  rw [Int.tdiv_eq_ediv_of_dvd (Int.gcd_dvd_left n 100)]

theorem ofH_bounds (n : Int) (h : -1000000000000000 ≤ n) (h' : n ≤ 1000000000000000) : -1000000000000000 ≤ ofHn n ∧ ofHn n ≤ 1000000000000000 ∧ 1 ≤ ofHd n ∧ ofHd n ≤ 100 := by
  have hg := gcd100 n
  have hn : ofHn n * (Int.gcd n 100 : Int) = n := by unfold ofHn; exact Int.ediv_mul_cancel (Int.gcd_dvd_left n 100)
  have hm : (ofHn n).natAbs ≤ n.natAbs := by
    rw [← congrArg Int.natAbs hn, Int.natAbs_mul]
    exact Nat.le_mul_of_pos_right _ (by omega)
  refine ⟨by omega, by omega, ?_, ?_⟩
  · unfold ofHd
    exact Int.le_ediv_of_mul_le (by omega) (by omega)
  · unfold ofHd
    exact Int.ediv_le_self _ (by decide)

/-- Made into hundredths again. -/
theorem ofH_back (n : Int) : ofHn n * (100 / ofHd n) = n := by
  have hg := gcd100 n
  have hd : ofHd n * (Int.gcd n 100 : Int) = 100 := by unfold ofHd; exact Int.ediv_mul_cancel (Int.gcd_dvd_right n 100)
  have hn : ofHn n * (Int.gcd n 100 : Int) = n := by unfold ofHn; exact Int.ediv_mul_cancel (Int.gcd_dvd_left n 100)
  have hne : ofHd n ≠ 0 := by intro e; rw [e] at hd; simp at hd
  rw [← hd, Int.mul_ediv_cancel_left _ hne, hn]

set_option maxRecDepth 100000 in
set_option maxHeartbeats 1000000 in
theorem fraction_prog (n : Int) (w : World) (h1 : -1000000000000000 ≤ n) (h2 : n ≤ 1000000000000000) :
    Calls Try.prog 43 #[.int .i64 n, .int .i64 100] w fun e w' => e = .returned (.agg #[.int .i64 (ofHn n), .int .i64 (ofHd n)]) ∧ Below w.heap.size w w' := by
  have hq := Lib.hid (ofH_quo n)
  have hg := gcd100 n
  have ha := Lib.hid (gcd_abs n 100)
  have hd := Lib.hid (show 100 / (Int.gcd n 100 : Int) = ofHd n from rfl)
  have hw0 := Below.refl w.heap.size w
  go_enter Try.func43, Try.ntmps43
  go_wp2_with fail
  have k0 := cells_new w #[.int .i64 0, .int .i64 0] 37 0 _ rfl
  have k1 := cells_new w #[.int .i64 0, .int .i64 0] 37 1 _ rfl
  have kf := frozen_new0 w #[.int .i64 0, .int .i64 0] 37 0
  have kf1 := frozen_new0 w #[.int .i64 0, .int .i64 0] 37 1
  have hlt : w.heap.size < (w.alloc (.cells #[.int .i64 0, .int .i64 0] 37)).heap.size := by simp
  replace hw0 := hw0.alloc (Nat.le_refl _) (.cells #[.int .i64 0, .int .i64 0] 37)
  generalize w.alloc (Obj.cells #[Value.int IntKind.i64 0, Value.int IntKind.i64 0] 37) = W at *
  refine (gcd_any _ _ _ (by omega) (by omega) (by omega) (by omega)).mono ?_
  rw [ha.out]
  rintro e w1 ⟨rfl, hb⟩
  generalize (Int.gcd n 100 : Int) = g at *
  have hg0 : (g == 0) = false := by simp; omega
  replace k0 := (hb.cell (p := ⟨w.heap.size, 0, none⟩) hlt).trans k0
  replace k1 := (hb.cell (p := ⟨w.heap.size, 1, none⟩) hlt).trans k1
  replace kf := (hb.frozen (p := ⟨w.heap.size, 0, none⟩) hlt).trans kf
  replace kf1 := (hb.frozen (p := ⟨w.heap.size, 1, none⟩) hlt).trans kf1
  replace hw0 := hw0.trans (hb.mono (Nat.le_of_lt hlt))
  have hlt1 : w.heap.size < w1.heap.size := Nat.lt_of_lt_of_le hlt hb.size
  clear hb hlt
  generalize hB : w.heap.size = B at *
  go_wp2_with fail
  have hbn := ofH_bounds n h1 h2
  have hne : ¬ g = 0 := by omega
  have e1 : IntKind.i64.wrap (n.tdiv g) = ofHn n := by rw [hq.out]; exact IntWalk.i64_in _ (by omega)
  have e2 : IntKind.i64.wrap (Int.tdiv 100 g) = ofHd n := by rw [Int.tdiv_eq_ediv_of_nonneg (by decide), hd.out]; exact IntWalk.i64_in _ (by omega)
  have hA := @cell?_allocs
  refine wp_region_calm [0, 1, 2, 3, 4, 5, 6] [7] (by kernel_rfl) (by kernel_rfl) (by intro c a d v w h; cases d <;> exact h) ?_
  simp only [pickOps, List.filterMap_cons, List.filterMap_nil, List.getElem?_cons_succ, List.getElem?_cons_zero]
  repeat (refine wpCalm_step (fun K hK => ?_); go_simp; refine hK _ ?_; clear hK K)
  refine wpCalm_nil ?_
  clear hA hne e1 e2
  go_wp2_with fail
  have r1 := World.cell?_setCell_same' (w1.setCell ⟨B, 0, none⟩ (.int .i64 (ofHn n))) ⟨B, 1, none⟩ (.int .i64 (ofHd n)) (by rw [World.cell?_setCell_other _ _ _ _ (by simp), k1]; rfl)
  have r0 : ((w1.setCell ⟨B, 0, none⟩ (.int .i64 (ofHn n))).setCell ⟨B, 1, none⟩ (.int .i64 (ofHd n))).cell? ⟨B, 0, none⟩ = some (.int .i64 (ofHn n)) := by
    rw [World.cell?_setCell_other _ _ _ _ (by simp)]
    exact World.cell?_setCell_same' _ _ _ (by rw [k0]; rfl)
  refine bodyPost_ret (v := .agg #[.int .i64 (ofHn n), .int .i64 (ofHd n)]) (by simp [results, Try.results43, go_sem, r0, r1]) rfl ⟨rfl, ?_⟩
  rw [hB]
  exact below_drewN ((hw0.setCell (Nat.le_refl _) _).setCell (Nat.le_refl _) _) 1

set_option maxRecDepth 100000 in
set_option maxHeartbeats 1000000 in
theorem lowestF_ref (n : Int) (w : World) (h1 : -1000000000000000 ≤ n) (h2 : n ≤ 1000000000000000) :
    Calls Try.prog 52 #[.int .i64 n, .int .i64 100] w fun e w' => e = .returned (.agg #[.int .i64 (ofHn n), .int .i64 (ofHd n)]) ∧ Below w.heap.size w w' := by
  have hq := Lib.hid (ofH_quo n)
  have hg := gcd100 n
  have hd := Lib.hid (show 100 / (Int.gcd n 100 : Int) = ofHd n from rfl)
  go_enter Try.func52, Try.ntmps52
  go_wp2_with fail
  refine (divisor_any _ _ _ (by omega) (by omega) (by omega) (by omega)).mono ?_
  rintro e w1 ⟨rfl, hb⟩
  generalize (Int.gcd n 100 : Int) = g at *
  obtain ⟨k0, k1, kf, kf1, hlt, r0, r1, hB⟩ := fresh2 _ _ _ _ _ hb
  have r0 := r0 (.int .i64 (ofHn n)) (.int .i64 (ofHd n))
  have r1 := r1 (.int .i64 (ofHn n)) (.int .i64 (ofHd n))
  have hB := hB (.int .i64 (ofHn n)) (.int .i64 (ofHd n))
  clear hb
  go_wp2_with fail
  have hbn := ofH_bounds n h1 h2
  have hne : ¬ g = 0 := by omega
  have e1 : IntKind.i64.wrap (n.tdiv g) = ofHn n := by rw [hq.out]; exact IntWalk.i64_in _ (by omega)
  have e2 : IntKind.i64.wrap (Int.tdiv 100 g) = ofHd n := by rw [Int.tdiv_eq_ediv_of_nonneg (by decide), hd.out]; exact IntWalk.i64_in _ (by omega)
  have hA := @cell?_allocs
  refine wp_region_calm [0, 1, 2, 3, 4, 5, 6] [7] (by kernel_rfl) (by kernel_rfl) (by intro c a d v w h; cases d <;> exact h) ?_
  simp only [pickOps, List.filterMap_cons, List.filterMap_nil, List.getElem?_cons_succ, List.getElem?_cons_zero]
  repeat (refine wpCalm_step (fun K hK => ?_); go_simp; refine hK _ ?_; clear hK K)
  refine wpCalm_nil ?_
  clear hA hne e1 e2
  go_wp2_with fail
  exact bodyPost_ret (v := .agg #[.int .i64 (ofHn n), .int .i64 (ofHd n)]) (by simp [results, Try.results52, go_sem, r0, r1]) rfl ⟨rfl, below_drewN hB 1⟩

/-- What a fraction is worth in hundredths. -/
def hund (num den : Int) : Int := num * (100 / den)

set_option maxRecDepth 100000 in
set_option maxHeartbeats 1000000 in
theorem hundredths_prog (num den : Int) (w : World) (h1 : -1000000000000000 ≤ num) (h2 : num ≤ 1000000000000000) (h3 : 1 ≤ den) (h4 : den ≤ 9223372036854775807) :
    Calls Try.prog 62 #[.agg #[.int .i64 num, .int .i64 den]] w fun e w' => e = .returned (.int .i64 (hund num den)) ∧ Below w.heap.size w w' := by
  have hw0 := Below.refl w.heap.size w
  have hq0 : 0 ≤ 100 / den := Int.ediv_nonneg (by decide) (by omega)
  have hq1 : 100 / den ≤ 100 := Int.ediv_le_self _ (by decide)
  have hdz : (den == 0) = false := by simp; omega
  have hb := mul_small num (100 / den) h1 h2 hq0 hq1
  go_enter Try.func62, Try.ntmps62
  go_wp2_with fail
  go_quiet (fail)
  go_wp2_with fail
  go_ret
  exact ⟨rfl, below_drewN (hw0.alloc (Nat.le_refl _) _) _⟩


set_option maxRecDepth 100000 in
set_option maxHeartbeats 1000000 in
theorem hundredths_ref (num den : Int) (w : World) (h1 : -1000000000000000 ≤ num) (h2 : num ≤ 1000000000000000) (h3 : 1 ≤ den) (h4 : den ≤ 9223372036854775807) :
    Calls Try.prog 70 #[.agg #[.int .i64 num, .int .i64 den]] w fun e w' => e = .returned (.int .i64 (hund num den)) ∧ Below w.heap.size w w' := by
  have hw0 := Below.refl w.heap.size w
  have hq0 : 0 ≤ 100 / den := Int.ediv_nonneg (by decide) (by omega)
  have hq1 : 100 / den ≤ 100 := Int.ediv_le_self _ (by decide)
  have hdz : (den == 0) = false := by simp; omega
  have hb := mul_small num (100 / den) h1 h2 hq0 hq1
  go_enter Try.func70, Try.ntmps70
  go_wp2_with fail
  go_quiet (fail)
  go_wp2_with fail
  go_ret
  exact ⟨rfl, below_drewN (hw0.alloc (Nat.le_refl _) _) _⟩


/-- What is wrong with points from -most to most. -/
def amountE (num den most : Int) : Int := if den < 1 ∨ Int.gcd num den ≠ 1 then 3 else if 100 % den ≠ 0 ∨ num < -most * den ∨ most * den < num then 1 else 0

theorem den_le {den : Int} (h : 1 ≤ den) (h0 : 100 % den = 0) : den ≤ 100 := Int.le_of_dvd (by decide) (Int.dvd_of_emod_eq_zero h0)

set_option maxRecDepth 100000 in
set_option maxHeartbeats 1000000 in
theorem amount_prog (num den most : Int) (w : World) (h1 : -9223372036854775808 ≤ num) (h2 : num ≤ 9223372036854775807) (h3 : -9223372036854775808 ≤ den) (h4 : den ≤ 9223372036854775807) (h5 : 0 ≤ most) (h6 : most ≤ 1000000) :
    Calls Try.prog 81 #[.agg #[.int .i64 num, .int .i64 den], .int .i64 most] w fun e w' => e = .returned (.int .i64 (amountE num den most)) ∧ Below w.heap.size w w' := by
  have hw0 := Below.refl w.heap.size w
  by_cases hd : den < 1
  · have he := Lib.hid (show amountE num den most = 3 by simp [amountE, hd])
    go_enter Try.func81, Try.ntmps81
    go_wp2_with fail
    go_ret
    exact ⟨ret_int he.out.symm, hw0.alloc (Nat.le_refl _) _⟩
  · have c0 := cells_new w #[.int .i64 num, .int .i64 den] 37 0 _ rfl
    have c1 := cells_new w #[.int .i64 num, .int .i64 den] 37 1 _ rfl
    have hlt : w.heap.size < (w.alloc (.cells #[.int .i64 num, .int .i64 den] 37)).heap.size := by simp
    replace hw0 := hw0.alloc (Nat.le_refl _) (.cells #[.int .i64 num, .int .i64 den] 37)
    have hl := lowest_any num den (w.alloc (.cells #[.int .i64 num, .int .i64 den] 37)) h1 h2 (by omega) h4
    by_cases hg : Int.gcd num den = 1
    · have hgb : decide (Int.gcd num den = 1) = true := by simp [hg]
      rw [hgb] at hl
      by_cases hm : 100 % den = 0
      · have hle := den_le (by omega) hm
        have hmb : (100 % den != 0) = false := by simp [hm]
        have hb1 := mul_small most den (by omega) (by omega) (by omega) hle
        have hb2 := mul_small (-most) den (by omega) (by omega) (by omega) hle
        have he := Lib.hid (show amountE num den most = if outB num (-most * den) (most * den) = true then 1 else 0 by simp [amountE, hd, hg, hm, outB])
        clear hgb hg hm
        cases ho : outB num (-most * den) (most * den)
        all_goals
          have ho := Lib.hid ho
          go_enter Try.func81, Try.ntmps81
          go_wp2_with fail
          generalize w.alloc (.cells #[.int .i64 num, .int .i64 den] 37) = W at *
          refine hl.mono ?_
          rintro e w1 ⟨rfl, hb⟩
          replace c0 := (hb.cell (p := ⟨w.heap.size, 0, none⟩) hlt).trans c0
          replace c1 := (hb.cell (p := ⟨w.heap.size, 1, none⟩) hlt).trans c1
          replace hw0 := hw0.trans (hb.mono (Nat.le_of_lt hlt))
          clear hb hlt hl
          go_wp2_with (go_at_call 42; refine (out_is _ _ _ _ ho.out _).mono ?_; rintro e w2 ⟨rfl, rfl⟩)
          go_ret
          exact ⟨ret_int (by rw [he.out, ho.out]; rfl), hw0⟩
      · have hmb : (100 % den != 0) = true := by simp [hm]
        have hdz : (den == 0) = false := by simp; omega
        have he := Lib.hid (show amountE num den most = 1 by simp [amountE, hd, hg, hm])
        clear hgb hg hm
        go_enter Try.func81, Try.ntmps81
        go_wp2_with fail
        generalize w.alloc (.cells #[.int .i64 num, .int .i64 den] 37) = W at *
        refine hl.mono ?_
        rintro e w1 ⟨rfl, hb⟩
        replace c0 := (hb.cell (p := ⟨w.heap.size, 0, none⟩) hlt).trans c0
        replace c1 := (hb.cell (p := ⟨w.heap.size, 1, none⟩) hlt).trans c1
        replace hw0 := hw0.trans (hb.mono (Nat.le_of_lt hlt))
        clear hb hlt hl
        go_wp2_with fail
        go_ret
        exact ⟨ret_int he.out.symm, hw0⟩
    · have hgb : decide (Int.gcd num den = 1) = false := by simp [hg]
      rw [hgb] at hl
      have he := Lib.hid (show amountE num den most = 3 by simp [amountE, hg])
      clear hgb hg
      go_enter Try.func81, Try.ntmps81
      go_wp2_with fail
      generalize w.alloc (.cells #[.int .i64 num, .int .i64 den] 37) = W at *
      refine hl.mono ?_
      rintro e w1 ⟨rfl, hb⟩
      replace hw0 := hw0.trans (hb.mono (Nat.le_of_lt hlt))
      clear hb hlt hl
      go_wp2_with fail
      go_ret
      exact ⟨ret_int he.out.symm, hw0⟩

set_option maxRecDepth 100000 in
set_option maxHeartbeats 1000000 in
theorem pointsFault_ref (num den most : Int) (w : World) (h1 : -9223372036854775808 ≤ num) (h2 : num ≤ 9223372036854775807) (h3 : -9223372036854775808 ≤ den) (h4 : den ≤ 9223372036854775807) (h5 : 0 ≤ most) (h6 : most ≤ 1000000) :
    Calls Try.prog 69 #[.agg #[.int .i64 num, .int .i64 den], .int .i64 most] w fun e w' => e = .returned (.int .i64 (amountE num den most)) ∧ Below w.heap.size w w' := by
  have hw0 := Below.refl w.heap.size w
  by_cases hd : den < 1
  · have he := Lib.hid (show amountE num den most = 3 by simp [amountE, hd])
    go_enter Try.func69, Try.ntmps69
    go_wp2_with fail
    go_ret
    exact ⟨ret_int he.out.symm, hw0.alloc (Nat.le_refl _) _⟩
  · have c0 := cells_new w #[.int .i64 num, .int .i64 den] 37 0 _ rfl
    have c1 := cells_new w #[.int .i64 num, .int .i64 den] 37 1 _ rfl
    have hlt : w.heap.size < (w.alloc (.cells #[.int .i64 num, .int .i64 den] 37)).heap.size := by simp
    replace hw0 := hw0.alloc (Nat.le_refl _) (.cells #[.int .i64 num, .int .i64 den] 37)
    have hl := divisor_any num den (w.alloc (.cells #[.int .i64 num, .int .i64 den] 37)) h1 h2 (by omega) h4
    have hdz : (den == 0) = false := by simp; omega
    by_cases hg : Int.gcd num den = 1
    · rw [hg] at hl
      by_cases hm : 100 % den = 0
      · have hle := den_le (by omega) hm
        have hmb : (100 % den != 0) = false := by simp [hm]
        have hb1 := mul_small most den (by omega) (by omega) (by omega) hle
        have hb2 := mul_small (-most) den (by omega) (by omega) (by omega) hle
        have he := Lib.hid (show amountE num den most = if num < -most * den ∨ most * den < num then 1 else 0 by simp [amountE, hd, hg, hm])
        clear hg hm
        by_cases ho1 : num < -most * den
        · go_enter Try.func69, Try.ntmps69
          go_wp2_with fail
          generalize w.alloc (.cells #[.int .i64 num, .int .i64 den] 37) = W at *
          refine hl.mono ?_
          rintro e w1 ⟨rfl, hb⟩
          replace c0 := (hb.cell (p := ⟨w.heap.size, 0, none⟩) hlt).trans c0
          replace c1 := (hb.cell (p := ⟨w.heap.size, 1, none⟩) hlt).trans c1
          replace hw0 := hw0.trans (hb.mono (Nat.le_of_lt hlt))
          clear hb hlt hl
          go_wp2_with fail
          go_ret
          exact ⟨ret_int (by rw [he.out, if_pos (.inl ho1)]), hw0⟩
        · by_cases ho2 : most * den < num
          · go_enter Try.func69, Try.ntmps69
            go_wp2_with fail
            generalize w.alloc (.cells #[.int .i64 num, .int .i64 den] 37) = W at *
            refine hl.mono ?_
            rintro e w1 ⟨rfl, hb⟩
            replace c0 := (hb.cell (p := ⟨w.heap.size, 0, none⟩) hlt).trans c0
            replace c1 := (hb.cell (p := ⟨w.heap.size, 1, none⟩) hlt).trans c1
            replace hw0 := hw0.trans (hb.mono (Nat.le_of_lt hlt))
            clear hb hlt hl
            go_wp2_with fail
            go_ret
            exact ⟨ret_int (by rw [he.out, if_pos (.inr ho2)]), hw0⟩
          · go_enter Try.func69, Try.ntmps69
            go_wp2_with fail
            generalize w.alloc (.cells #[.int .i64 num, .int .i64 den] 37) = W at *
            refine hl.mono ?_
            rintro e w1 ⟨rfl, hb⟩
            replace c0 := (hb.cell (p := ⟨w.heap.size, 0, none⟩) hlt).trans c0
            replace c1 := (hb.cell (p := ⟨w.heap.size, 1, none⟩) hlt).trans c1
            replace hw0 := hw0.trans (hb.mono (Nat.le_of_lt hlt))
            clear hb hlt hl
            go_wp2_with fail
            go_ret
            exact ⟨ret_int (by rw [he.out, if_neg (by omega)]), hw0⟩
      · have hmb : (100 % den != 0) = true := by simp [hm]
        have he := Lib.hid (show amountE num den most = 1 by simp [amountE, hd, hg, hm])
        clear hg hm
        go_enter Try.func69, Try.ntmps69
        go_wp2_with fail
        generalize w.alloc (.cells #[.int .i64 num, .int .i64 den] 37) = W at *
        refine hl.mono ?_
        rintro e w1 ⟨rfl, hb⟩
        replace c0 := (hb.cell (p := ⟨w.heap.size, 0, none⟩) hlt).trans c0
        replace c1 := (hb.cell (p := ⟨w.heap.size, 1, none⟩) hlt).trans c1
        replace hw0 := hw0.trans (hb.mono (Nat.le_of_lt hlt))
        clear hb hlt hl
        go_wp2_with fail
        go_ret
        exact ⟨ret_int he.out.symm, hw0⟩
    · have he := Lib.hid (show amountE num den most = 3 by simp [amountE, hg])
      have hgb : (((Int.gcd num den : Nat) : Int) != 1) = true := by simp; omega
      generalize ((Int.gcd num den : Nat) : Int) = g at *
      clear hg
      go_enter Try.func69, Try.ntmps69
      go_wp2_with fail
      generalize w.alloc (.cells #[.int .i64 num, .int .i64 den] 37) = W at *
      refine hl.mono ?_
      rintro e w1 ⟨rfl, hb⟩
      replace hw0 := hw0.trans (hb.mono (Nat.le_of_lt hlt))
      clear hb hlt hl
      go_wp2_with fail
      go_ret
      exact ⟨ret_int he.out.symm, hw0⟩
end Go.Proofs.Ytkdimgghljklmaa
/-
  Fractions in lowest terms: the program's and the reference's. Conditions: the bounds on numbers that each theorem names.
-/
set_option linter.unusedVariables false
namespace Go.Proofs.Ytkdimgghljklmaa
open Go.RowKit Go.Bw
def fN (a b : Int) : Int := a / (Int.gcd a b : Int)
def fD (a b : Int) : Int := b / (Int.gcd a b : Int)
theorem gcd_pos (a b : Int) (hb : 1 ≤ b) : 1 ≤ (Int.gcd a b : Int) ∧ (Int.gcd a b : Int) ≤ b := by
  have h0 : 0 < Int.gcd a b := Int.gcd_pos_of_ne_zero_right _ (by omega)
  have h1 : (Int.gcd a b : Int) ∣ b := Int.gcd_dvd_right a b
  have := Int.le_of_dvd (by omega) h1
  omega
theorem fN_quo (a b : Int) : a.tdiv (Int.gcd a b : Int) = fN a b := by
  unfold fN
  rw [Int.tdiv_eq_ediv_of_dvd (Int.gcd_dvd_left a b)]
theorem f_bounds (a b : Int) (ha : 0 ≤ a) (hb : 1 ≤ b) : 0 ≤ fN a b ∧ fN a b ≤ a ∧ 1 ≤ fD a b ∧ fD a b ≤ b := by
  have hg := gcd_pos a b hb
  refine ⟨Int.ediv_nonneg ha (by omega), Int.ediv_le_self _ ha, ?_, Int.ediv_le_self _ (by omega)⟩
  unfold fD
  exact Int.le_ediv_of_mul_le (by omega) (by omega)

set_option maxRecDepth 100000 in
set_option maxHeartbeats 1000000 in
theorem fractionG_prog (n b : Int) (w : World) (h1 : 0 ≤ n) (h2 : n ≤ 1000000000000000000) (h3 : 1 ≤ b) (h4 : b ≤ 1000000000000000000) :
    Calls Try.prog 43 #[.int .i64 n, .int .i64 b] w fun e w' => e = .returned (.agg #[.int .i64 (fN n b), .int .i64 (fD n b)]) ∧ Below w.heap.size w w' := by
  have hq := Lib.hid (fN_quo n b)
  have hg := gcd_pos n b h3
  have ha := Lib.hid (gcd_abs n b)
  have hd := Lib.hid (show b / (Int.gcd n b : Int) = fD n b from rfl)
  have hw0 := Below.refl w.heap.size w
  go_enter Try.func43, Try.ntmps43
  go_wp2_with fail
  have k0 := cells_new w #[.int .i64 0, .int .i64 0] 37 0 _ rfl
  have k1 := cells_new w #[.int .i64 0, .int .i64 0] 37 1 _ rfl
  have kf := frozen_new0 w #[.int .i64 0, .int .i64 0] 37 0
  have kf1 := frozen_new0 w #[.int .i64 0, .int .i64 0] 37 1
  have hlt : w.heap.size < (w.alloc (.cells #[.int .i64 0, .int .i64 0] 37)).heap.size := by simp
  replace hw0 := hw0.alloc (Nat.le_refl _) (.cells #[.int .i64 0, .int .i64 0] 37)
  generalize w.alloc (Obj.cells #[Value.int IntKind.i64 0, Value.int IntKind.i64 0] 37) = W at *
  refine (gcd_any _ _ _ (by omega) (by omega) (by omega) (by omega)).mono ?_
  rw [ha.out]
  rintro e w1 ⟨rfl, hb⟩
  generalize (Int.gcd n b : Int) = g at *
  have hg0 : (g == 0) = false := by simp; omega
  replace k0 := (hb.cell (p := ⟨w.heap.size, 0, none⟩) hlt).trans k0
  replace k1 := (hb.cell (p := ⟨w.heap.size, 1, none⟩) hlt).trans k1
  replace kf := (hb.frozen (p := ⟨w.heap.size, 0, none⟩) hlt).trans kf
  replace kf1 := (hb.frozen (p := ⟨w.heap.size, 1, none⟩) hlt).trans kf1
  replace hw0 := hw0.trans (hb.mono (Nat.le_of_lt hlt))
  have hlt1 : w.heap.size < w1.heap.size := Nat.lt_of_lt_of_le hlt hb.size
  clear hb hlt
  generalize hB : w.heap.size = B at *
  go_wp2_with fail
  have hbn := f_bounds n b h1 h3
  have hne : ¬ g = 0 := by omega
  have e1 : IntKind.i64.wrap (n.tdiv g) = fN n b := by rw [hq.out]; exact IntWalk.i64_in _ (by omega)
  have e2 : IntKind.i64.wrap (Int.tdiv b g) = fD n b := by rw [Int.tdiv_eq_ediv_of_nonneg (by omega), hd.out]; exact IntWalk.i64_in _ (by omega)
  have hA := @cell?_allocs
  refine wp_region_calm [0, 1, 2, 3, 4, 5, 6] [7] (by kernel_rfl) (by kernel_rfl) (by intro c a d v w h; cases d <;> exact h) ?_
  simp only [pickOps, List.filterMap_cons, List.filterMap_nil, List.getElem?_cons_succ, List.getElem?_cons_zero]
  repeat (refine wpCalm_step (fun K hK => ?_); go_simp; refine hK _ ?_; clear hK K)
  refine wpCalm_nil ?_
  clear hA hne e1 e2
  go_wp2_with fail
  have r1 := World.cell?_setCell_same' (w1.setCell ⟨B, 0, none⟩ (.int .i64 (fN n b))) ⟨B, 1, none⟩ (.int .i64 (fD n b)) (by rw [World.cell?_setCell_other _ _ _ _ (by simp), k1]; rfl)
  have r0 : ((w1.setCell ⟨B, 0, none⟩ (.int .i64 (fN n b))).setCell ⟨B, 1, none⟩ (.int .i64 (fD n b))).cell? ⟨B, 0, none⟩ = some (.int .i64 (fN n b)) := by
    rw [World.cell?_setCell_other _ _ _ _ (by simp)]
    exact World.cell?_setCell_same' _ _ _ (by rw [k0]; rfl)
  refine bodyPost_ret (v := .agg #[.int .i64 (fN n b), .int .i64 (fD n b)]) (by simp [results, Try.results43, go_sem, r0, r1]) rfl ⟨rfl, ?_⟩
  rw [hB]
  exact below_drewN ((hw0.setCell (Nat.le_refl _) _).setCell (Nat.le_refl _) _) 1

set_option maxRecDepth 100000 in
set_option maxHeartbeats 1000000 in
theorem lowestG_ref (n b : Int) (w : World) (h1 : 0 ≤ n) (h2 : n ≤ 1000000000000000000) (h3 : 1 ≤ b) (h4 : b ≤ 1000000000000000000) :
    Calls Try.prog 52 #[.int .i64 n, .int .i64 b] w fun e w' => e = .returned (.agg #[.int .i64 (fN n b), .int .i64 (fD n b)]) ∧ Below w.heap.size w w' := by
  have hq := Lib.hid (fN_quo n b)
  have hg := gcd_pos n b h3
  have hd := Lib.hid (show b / (Int.gcd n b : Int) = fD n b from rfl)
  go_enter Try.func52, Try.ntmps52
  go_wp2_with fail
  refine (divisor_any _ _ _ (by omega) (by omega) (by omega) (by omega)).mono ?_
  rintro e w1 ⟨rfl, hb⟩
  generalize (Int.gcd n b : Int) = g at *
  obtain ⟨k0, k1, kf, kf1, hlt, r0, r1, hB⟩ := fresh2 _ _ _ _ _ hb
  have r0 := r0 (.int .i64 (fN n b)) (.int .i64 (fD n b))
  have r1 := r1 (.int .i64 (fN n b)) (.int .i64 (fD n b))
  have hB := hB (.int .i64 (fN n b)) (.int .i64 (fD n b))
  clear hb
  go_wp2_with fail
  have hbn := f_bounds n b h1 h3
  have hne : ¬ g = 0 := by omega
  have e1 : IntKind.i64.wrap (n.tdiv g) = fN n b := by rw [hq.out]; exact IntWalk.i64_in _ (by omega)
  have e2 : IntKind.i64.wrap (Int.tdiv b g) = fD n b := by rw [Int.tdiv_eq_ediv_of_nonneg (by omega), hd.out]; exact IntWalk.i64_in _ (by omega)
  have hA := @cell?_allocs
  refine wp_region_calm [0, 1, 2, 3, 4, 5, 6] [7] (by kernel_rfl) (by kernel_rfl) (by intro c a d v w h; cases d <;> exact h) ?_
  simp only [pickOps, List.filterMap_cons, List.filterMap_nil, List.getElem?_cons_succ, List.getElem?_cons_zero]
  repeat (refine wpCalm_step (fun K hK => ?_); go_simp; refine hK _ ?_; clear hK K)
  refine wpCalm_nil ?_
  clear hA hne e1 e2
  go_wp2_with fail
  exact bodyPost_ret (v := .agg #[.int .i64 (fN n b), .int .i64 (fD n b)]) (by simp [results, Try.results52, go_sem, r0, r1]) rfl ⟨rfl, below_drewN hB 1⟩

end Go.Proofs.Ytkdimgghljklmaa
