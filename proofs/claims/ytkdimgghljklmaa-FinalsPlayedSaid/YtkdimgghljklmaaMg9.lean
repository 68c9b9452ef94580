/-
  Contracts and lemmas towards the statement, of several parts; each part says ahead of it what it holds and under which conditions.
-/
import Derived.Test.YtkdimgghljklmaaMg8
import Derived.Lib.AppendZerosOnto
import Derived.Lib.SliceRun
import Derived.Lib.Walk
import Derived.Test.YtkdimgghljklmaaMg1
import Derived.Lib.MinMax
/-
  Finals: who wins legs, the program's Legs from end to end. Conditions: at most 1000000 legs; whole numbers are Go's.
-/
set_option linter.unusedVariables false
namespace Go.Proofs.Ytkdimgghljklmaa
open Go.RowKit Go.Bw
set_option maxRecDepth 100000 in
set_option maxHeartbeats 1000000 in
theorem lg_all (w0 : World) (va vb : Value) (xs ys : List (Int × Int)) (ha : LgH w0 va xs) (hb : LgH w0 vb ys) : T3 Try.prog (fun a w => (Below w0.heap.size w0 w) ∧ Fr 50 [(0, va), (1, vb)] a) lgP No No 9 (fun a w => Fr 50 [(4, .int .i64 (legsR xs ys).1), (5, .int .i64 (legsR xs ys).2)] a ∧ Below w0.heap.size w0 w) := by
  refine T3.seq (s := (sel [0] lgP)) (c := (sel [1] lgP)) (lg0 w0 va vb xs ys ha hb) ?_
  refine T3.seq (s := (sel [1, 0] lgP)) (c := (sel [1, 1] lgP)) (S := fun a w => ((xs.length = ys.length) ∧ xs.length ≤ 8) ∧ (Below w0.heap.size w0 w) ∧ Fr 50 [(0, va), (1, vb)] a) ?_ (T3.pure fun hp => ?_)
  · refine T3.block (id' := 0) (c := (sel [1, 0, 4] lgP)) (by decide) ?_
    refine T3.test (s := (sel [1, 0, 4, 0] lgP)) (x := (sel [1, 0, 4, 1, 2] lgP)) (y := (sel [1, 0, 4, 1, 3] lgP)) (C := fun q => (q = ((xs.length : Int) != (ys.length : Int)))) (W := fun w => Below w0.heap.size w0 w) (by decide) ((lg1 w0 va vb xs ys ha hb).noX) ?_ ?_
    · refine T3.seq (s := (sel [1, 0, 4, 1, 2, 0] lgP)) (c := .ret) (t3_seqx (p := xs.length ≠ ys.length) ((lg2 w0 va vb xs ys ha hb).noX) ?_) (T3.ret ?_)
      · rintro a w ⟨hF, hq, hW⟩
        exact ⟨by have := hq.symm; simp at this; omega, hW, hF.tail⟩
      · rintro a w ⟨hp, hW, hF⟩
        have e : legsR xs ys = (0, 3) := by unfold legsR; rw [if_pos hp]
        exact ⟨by rw [e]; exact hF, hW⟩
    · refine T3.pre (R := fun a w => (xs.length = ys.length) ∧ (Below w0.heap.size w0 w) ∧ Fr 50 [(0, va), (1, vb)] a) (T3.pure fun hl => ?_) (fun a w q => ⟨by have := q.1.symm; simp at this; omega, q.2⟩)
      refine T3.test (s := (sel [1, 0, 4, 1, 3, 0] lgP)) (x := (sel [1, 0, 4, 1, 3, 1, 2] lgP)) (y := .skip) (C := fun q => (q = decide ((8 : Int) < (xs.length : Int)))) (W := fun w => Below w0.heap.size w0 w) (by decide) ((lg3 w0 va vb xs ys ha hb).noX) ?_ (T3.skip ?_)
      · refine T3.seq (s := (sel [1, 0, 4, 1, 3, 1, 2, 0] lgP)) (c := .ret) (t3_seqx (p := 8 < xs.length) ((lg4 w0 va vb xs ys ha hb).noX) ?_) (T3.ret ?_)
        · rintro a w ⟨hF, hq, hW⟩
          exact ⟨by have := of_decide_eq_true hq.symm; omega, hW, hF.tail⟩
        · rintro a w ⟨hp, hW, hF⟩
          have e : legsR xs ys = (0, 2) := by unfold legsR; rw [if_neg (by simp [hl]), if_pos hp]
          exact ⟨by rw [e]; exact hF, hW⟩
      · rintro a w ⟨hq, hW, hF⟩
        exact ⟨⟨hl, by have := of_decide_eq_false hq.symm; omega⟩, hW, hF⟩
  obtain ⟨hl, h8⟩ := hp
  refine T3.seq (s := (sel [1, 1, 0] lgP)) (c := (sel [1, 1, 1] lgP)) (S := fun a w => (legsF xs ys = 0) ∧ (Below w0.heap.size w0 w) ∧ Fr 50 [(0, va), (1, vb)] a) ?_ (T3.pure fun hz => ?_)
  · refine T3.seq (s := (sel [1, 1, 0, 0] lgP)) (c := (sel [1, 1, 0, 1] lgP)) (lg5 w0 va vb xs ys ha hb) ?_
    refine T3.test (s := (sel [1, 1, 0, 1, 0] lgP)) (x := (sel [1, 1, 0, 1, 1, 2] lgP)) (y := .skip) (C := fun q => (q = (legsF xs ys != 0))) (W := fun w => Below w0.heap.size w0 w) (by decide) (lg6 w0 va vb xs ys ha hb) ?_ (T3.skip ?_)
    · refine T3.seq (s := (sel [1, 1, 0, 1, 1, 2, 0] lgP)) (c := .ret) (t3_seqx (p := legsF xs ys ≠ 0) (lg7 w0 va vb xs ys ha hb) ?_) (T3.ret ?_)
      · rintro a w ⟨hF, hq, hW⟩
        exact ⟨by have := hq.symm; simpa using this, hW, hF.tail⟩
      · rintro a w ⟨hp, hW, hF⟩
        have e : legsR xs ys = (0, legsF xs ys) := by unfold legsR; rw [if_neg (by simp [hl]), if_neg (by omega), if_pos hp]
        exact ⟨by rw [e]; exact hF, hW⟩
    · rintro a w ⟨hq, hW, hF⟩
      exact ⟨by have := hq.symm; simpa using this, hW, hF.sub (by simp)⟩
  refine T3.seq (s := (sel [1, 1, 1, 0] lgP)) (c := (sel [1, 1, 1, 1] lgP)) (lg8 w0 va vb xs ys ha hb) ?_
  refine T3.seq (s := (sel [1, 1, 1, 1, 0] lgP)) (c := (sel [1, 1, 1, 1, 1] lgP)) (T3.seq (s := (sel [1, 1, 1, 1, 0, 0] lgP)) (c := (sel [1, 1, 1, 1, 0, 1] lgP)) (lg9 w0 va vb xs ys ha hb (Lib.hid hl) h8 (Lib.hid hz)) (lgloop w0 va vb xs ys ha hb (Lib.hid hl) h8 (Lib.hid hz))) ?_
  refine T3.seq (s := (sel [1, 1, 1, 1, 1, 0] lgP)) (c := .ret) (lg14 w0 va vb xs ys ha hb (Lib.hid hl) h8 (Lib.hid hz)) (T3.ret ?_)
  rintro a w ⟨hW, hF⟩
  have e : legsR xs ys = (signZ (legS xs ys xs.length), 0) := by unfold legsR; rw [if_neg (by simp [hl]), if_neg (by omega), if_neg (by simp [hz])]
  exact ⟨by rw [e]; exact hF, hW⟩

set_option maxRecDepth 100000 in
set_option maxHeartbeats 1000000 in
theorem legs_prog (w0 : World) (va vb : Value) (xs ys : List (Int × Int)) (ha : LgH w0 va xs) (hb : LgH w0 vb ys) : Calls Try.prog 29 #[va, vb] w0 fun e w' => e = .returned (.tuple #[.int .i64 (legsR xs ys).1, .int .i64 (legsR xs ys).2]) ∧ Below w0.heap.size w0 w' := by
  have hall := lg_all w0 va vb xs ys ha hb
  go_enter Try.func29, Try.ntmps29
  refine T3.done (s := lgP) hall ⟨Below.refl _ _, Fr.of _ rfl ⟨rfl, rfl, trivial⟩⟩ ?_
  rintro a w ⟨⟨fr, rfl, q4, q5, _⟩, hw⟩
  rw [fr_lgP, show fr 4 = _ from q4, show fr 5 = _ from q5]
  go_ret2
  exact ⟨rfl, hw⟩
end Go.Proofs.Ytkdimgghljklmaa
/-
  Finals: who wins legs, the reference's sign; plain lemmas on two lists joined. Condition: none on a program's data.
-/
set_option linter.unusedVariables false
namespace Go.Proofs.Ytkdimgghljklmaa
open Go.RowKit Go.Bw
set_option maxRecDepth 100000 in
set_option maxHeartbeats 1000000 in
theorem sign_ref (s : Int) (w : World) : Calls Try.prog 71 #[.int .i64 s] w fun e w' => e = .returned (.int .i64 (signZ s)) ∧ w = w' := by
  by_cases h1 : s < 0
  · have HE := Lib.hid (show signZ s = -1 by unfold signZ; omega)
    go_enter Try.func71, Try.ntmps71
    go_wp2_with fail
    go_ret
    exact ⟨ret_int HE.out.symm, rfl⟩
  · by_cases h2 : 0 < s
    · have HE := Lib.hid (show signZ s = 1 by unfold signZ; omega)
      go_enter Try.func71, Try.ntmps71
      go_wp2_with fail
      go_ret
      exact ⟨ret_int HE.out.symm, rfl⟩
    · obtain rfl : s = 0 := by omega
      have HE := Lib.hid (show signZ 0 = 0 by decide)
      go_enter Try.func71, Try.ntmps71
      go_wp2_with fail
      go_ret
      exact ⟨ret_int HE.out.symm, rfl⟩
theorem getp_left {xs ys : List (Int × Int)} {k : Int} (h0 : 0 ≤ k) (h1 : k < xs.length) : getp (xs ++ ys) k = getp xs k := by
  unfold getp
  rw [List.getElem?_append_left (by omega)]
theorem getp_right {xs ys : List (Int × Int)} {k : Int} (h0 : (xs.length : Int) ≤ k) : getp (xs ++ ys) k = getp ys (k - xs.length) := by
  unfold getp
  rw [List.getElem?_append_right (by omega), show k.toNat - xs.length = (k - (xs.length : Int)).toNat by omega]
theorem firstErr_some {f : Int → Int} {n : Int} (h : firstErr f n ≠ 0) : ∃ k : Int, 0 ≤ k ∧ k < n ∧ NoErr f k ∧ f k ≠ 0 := by
  have key : ∀ m : Nat, (m : Int) ≤ n → NoErr f m ∨ ∃ k : Int, 0 ≤ k ∧ k < n ∧ NoErr f k ∧ f k ≠ 0 := by
    intro m
    induction m with
    | zero => exact fun _ => .inl (NoErr.zero _)
    | succ m ih =>
      intro hm
      rcases ih (by omega) with a | a
      · by_cases hf : f m = 0
        · refine .inl ?_
          have := a.step hf
          exact this
        · exact .inr ⟨m, by omega, by omega, a, hf⟩
      · exact .inr a
  by_cases hn : n ≤ 0
  · exact absurd (firstErr_none (fun j h0 h1 => by omega)) h
  · rcases key n.toNat (by omega) with a | a
    · rw [Int.toNat_of_nonneg (by omega)] at a
      exact absurd (firstErr_none a) h
    · exact a
/-- What is first wrong in two lists joined. -/
theorem legsE_append (xs ys : List (Int × Int)) : legsE (xs ++ ys) = legsF xs ys := by
  have hl : (((xs ++ ys).length : Nat) : Int) = xs.length + ys.length := by simp
  unfold legsF
  rw [fst2]
  by_cases hx : legsE xs = 0
  · rw [if_neg (by simp [hx])]
    have nx : NoErr (legK (xs ++ ys)) xs.length := fun j h0 h1 => by
      have := firstErr_zero hx j h0 h1
      unfold legK at this ⊢
      rw [getp_left h0 h1]
      exact this
    by_cases hy : legsE ys = 0
    · rw [hy]
      refine firstErr_none fun j h0 h1 => ?_
      by_cases hj : j < xs.length
      · exact nx j h0 hj
      · have := firstErr_zero hy (j - xs.length) (by omega) (by omega)
        unfold legK at this ⊢
        rw [getp_right (by omega)]
        exact this
    · obtain ⟨k, h0, h1, hn, he⟩ := firstErr_some hy
      have e1 : legK (xs ++ ys) (xs.length + k) = legK ys k := by
        unfold legK
        rw [getp_right (by omega), show (xs.length : Int) + k - xs.length = k by omega]
      have e2 : legsE ys = legK ys k := firstErr_hit hn h0 h1 he
      rw [e2, ← e1]
      refine firstErr_hit (fun j hj0 hj1 => ?_) (by omega) (by omega) (by rw [e1]; exact he)
      by_cases hj : j < xs.length
      · exact nx j hj0 hj
      · have := hn (j - xs.length) (by omega) (by omega)
        unfold legK at this ⊢
        rw [getp_right (by omega)]
        exact this
  · rw [if_pos hx]
    obtain ⟨k, h0, h1, hn, he⟩ := firstErr_some hx
    have e1 : legK (xs ++ ys) k = legK xs k := by
      unfold legK
      rw [getp_left h0 h1]
    have e2 : legsE xs = legK xs k := firstErr_hit hn h0 h1 he
    rw [e2, ← e1]
    refine firstErr_hit (fun j hj0 hj1 => ?_) h0 (by omega) (by rw [e1]; exact he)
    have := hn j hj0 hj1
    unfold legK at this ⊢
    rw [getp_left hj0 (by omega)]
    exact this
end Go.Proofs.Ytkdimgghljklmaa
/-
  Finals: who wins legs, plain: the reference's sum over the two lists joined. No condition on a program.
-/
set_option linter.unusedVariables false
namespace Go.Proofs.Ytkdimgghljklmaa
open Go.RowKit Go.Bw
def hundK (xs : List (Int × Int)) (k : Nat) : Int := hund (getp xs k).1 (getp xs k).2
def hundS (xs : List (Int × Int)) : Nat → Int
  | 0 => 0
  | k + 1 => hundS xs k + hundK xs k
/-- The sum so far: plus in the first list, minus behind it. -/
def legU (xs ys : List (Int × Int)) : Nat → Int
  | 0 => 0
  | k + 1 => if k < xs.length then legU xs ys k + hundK (xs ++ ys) k else legU xs ys k - hundK (xs ++ ys) k
theorem legS_two (xs ys : List (Int × Int)) : ∀ k, legS xs ys k = hundS xs k - hundS ys k
  | 0 => rfl
  | k + 1 => by
    have ih := legS_two xs ys k
    show legS xs ys k + legD xs ys k = (hundS xs k + hundK xs k) - (hundS ys k + hundK ys k)
    unfold legD hundK
    omega
theorem legU_left (xs ys : List (Int × Int)) : ∀ k, k ≤ xs.length → legU xs ys k = hundS xs k
  | 0, _ => rfl
  | k + 1, hk => by
    have ih := legU_left xs ys k (by omega)
    show (if k < xs.length then legU xs ys k + hundK (xs ++ ys) k else legU xs ys k - hundK (xs ++ ys) k) = hundS xs k + hundK xs k
    rw [if_pos (by omega), ih]
    unfold hundK
    rw [getp_left (by omega) (by omega)]
theorem legU_right (xs ys : List (Int × Int)) : ∀ j, legU xs ys (xs.length + j) = hundS xs xs.length - hundS ys j
  | 0 => by
    show legU xs ys xs.length = hundS xs xs.length - 0
    rw [legU_left xs ys xs.length (Nat.le_refl _)]
    omega
  | j + 1 => by
    have ih := legU_right xs ys j
    show (if xs.length + j < xs.length then legU xs ys (xs.length + j) + hundK (xs ++ ys) (xs.length + j) else legU xs ys (xs.length + j) - hundK (xs ++ ys) (xs.length + j)) = hundS xs xs.length - (hundS ys j + hundK ys j)
    rw [if_neg (by omega), ih]
    have e : hundK (xs ++ ys) (xs.length + j) = hundK ys j := by
      unfold hundK
      rw [getp_right (by omega), show (((xs.length + j : Nat) : Int)) - (xs.length : Int) = (j : Int) by omega]
    rw [e]
    omega
/-- The whole sum is the program's. -/
theorem legU_all (xs ys : List (Int × Int)) (h : xs.length = ys.length) : legU xs ys (xs ++ ys).length = legS xs ys xs.length := by
  rw [List.length_append, legU_right, legS_two, h]
end Go.Proofs.Ytkdimgghljklmaa
/-
  Finals: lists of fractions joined by the library (slices.Concat): the count. Conditions: at most 10 lists of at most 1000000 each.
-/
set_option linter.unusedVariables false
namespace Go.Proofs.Ytkdimgghljklmaa
open Go.RowKit Go.Bw
/-- Lists of fractions in memory. -/
structure CcH (w : World) (v : Value) (L : List (Value × List (Int × Int))) : Prop where
  r : Row w 0 1 v L.length (L.map (·.1))
  e : ∀ p ∈ L, LgH w p.1 p.2
  n : L.length ≤ 10
def ccN (L : List (Value × List (Int × Int))) : Nat → Nat
  | 0 => 0
  | k + 1 => ccN L k + (L[k]?.getD (.slice none 0 0, [])).2.length
def ccA (L : List (Value × List (Int × Int))) (k : Int) : Value × List (Int × Int) := L[k.toNat]?.getD (.slice none 0 0, [])
theorem ccA_mem {L : List (Value × List (Int × Int))} {k : Int} (h0 : 0 ≤ k) (h1 : k < L.length) : ccA L k ∈ L := by
  have : k.toNat < L.length := by omega
  simp [ccA, this]
theorem ccN_b {w : World} {v : Value} {L : List (Value × List (Int × Int))} (h : CcH w v L) : ∀ k : Nat, k ≤ L.length → ccN L k ≤ 1000000 * k
  | 0, _ => Nat.le_refl _
  | k + 1, hk => by
    have ih := ccN_b h k (by omega)
    have hm := (h.e _ (ccA_mem (L := L) (k := (k : Int)) (by omega) (by omega))).n
    have e : ccN L (k + 1) = ccN L k + (ccA L (k : Int)).2.length := rfl
    omega
noncomputable def ccP : Code := (Try.f68.body).getD .skip
set_option maxRecDepth 100000 in
theorem fr_ccP (f : Nat → Value) : frame 36 f = ⟨#[f 0, f 1, f 2, f 3, f 4, f 5, f 6, f 7, f 8, f 9, f 10, f 11, f 12, f 13, f 14, f 15, f 16, f 17, f 18, f 19, f 20, f 21, f 22, f 23, f 24, f 25, f 26, f 27, f 28, f 29, f 30, f 31, f 32, f 33, f 34, f 35], []⟩ := by rfl
set_option maxRecDepth 100000 in
set_option maxHeartbeats 1000000 in
theorem cc0 (w0 : World) (v0 : Value) (L : List (Value × List (Int × Int))) (h : CcH w0 v0 L) : T3 Try.prog (fun a w => (IsW w0 w) ∧ Fr 36 [(0, v0)] a) (sel [0] ccP) (fun a w => (IsW w0 w) ∧ Fr 36 [(0, v0)] a) No 9 No := by
  refine T3.leaf ?_
  rintro Q JS JX JT K hS hK hX hE hT hR a w ⟨hW, ⟨fr, rfl, q0, _⟩⟩
  obtain ⟨p1, c1, hv1⟩ := h.r.shape
  subst hv1
  rw [fr_ccP, show fr 0 = _ from q0]
  clear q0
  conv => arg 2; whnf
  go_wp2_with fail
  refine Met.intro (hS _ _ ?_)
  exact ⟨hW, Fr.of _ rfl ⟨rfl, trivial⟩⟩

set_option maxRecDepth 100000 in
set_option maxHeartbeats 1000000 in
theorem cc1 (w0 : World) (v0 : Value) (L : List (Value × List (Int × Int))) (h : CcH w0 v0 L) : T3 Try.prog (fun a w => (IsW w0 w) ∧ Fr 36 [(0, v0)] a) (sel [1, 0] ccP) (fun a w => (IsW w0 w) ∧ Fr 36 [(0, v0), (3, .int .i64 0)] a) No 9 No := by
  refine T3.leaf ?_
  rintro Q JS JX JT K hS hK hX hE hT hR a w ⟨hW, ⟨fr, rfl, q0, _⟩⟩
  obtain ⟨p1, c1, hv1⟩ := h.r.shape
  subst hv1
  rw [fr_ccP, show fr 0 = _ from q0]
  clear q0
  conv => arg 2; whnf
  go_wp2_with fail
  refine Met.intro (hS _ _ ?_)
  exact ⟨hW, Fr.of _ rfl ⟨rfl, rfl, trivial⟩⟩

set_option maxRecDepth 100000 in
set_option maxHeartbeats 1000000 in
theorem cc2 (w0 : World) (v0 : Value) (L : List (Value × List (Int × Int))) (h : CcH w0 v0 L) : T3 Try.prog (fun a w => (IsW w0 w) ∧ Fr 36 [(0, v0), (3, .int .i64 0)] a) (sel [1, 1, 0, 0] ccP) (fun a w => (0 ≤ (0 : Int) ∧ (0 : Int) ≤ L.length) ∧ (IsW w0 w) ∧ Fr 36 [(0, v0), (3, .int .i64 (ccN L (0 : Int).toNat : Nat)), (9, v0), (10, .int .i64 L.length), (11, .int .i64 0)] a) No 9 No := by
  refine T3.leaf ?_
  rintro Q JS JX JT K hS hK hX hE hT hR a w ⟨hW, ⟨fr, rfl, q0, q3, _⟩⟩
  obtain ⟨p1, c1, hv1⟩ := h.r.shape
  subst hv1
  rw [fr_ccP, show fr 0 = _ from q0, show fr 3 = _ from q3]
  clear q0 q3
  conv => arg 2; whnf
  go_wp2_with fail
  refine Met.intro (hS _ _ ?_)
  exact ⟨⟨by omega, by omega⟩, hW, Fr.of _ rfl ⟨rfl, rfl, rfl, rfl, rfl, trivial⟩⟩

set_option maxRecDepth 100000 in
set_option maxHeartbeats 1000000 in
theorem cc4 (w0 : World) (v0 : Value) (L : List (Value × List (Int × Int))) (h : CcH w0 v0 L) (k : Int) : T3 Try.prog (fun a w => (0 ≤ k ∧ k < L.length) ∧ (IsW w0 w) ∧ Fr 36 [(0, v0), (3, .int .i64 (ccN L (k : Int).toNat : Nat)), (9, v0), (10, .int .i64 L.length), (11, .int .i64 k)] a) (sel [1, 1, 0, 1, 4, 4, 1, 1, 0, 4, 0] ccP) (fun a w => (0 ≤ k ∧ k < L.length) ∧ (IsW w0 w) ∧ Fr 36 [(0, v0), (3, .int .i64 (ccN L (k : Int).toNat : Nat)), (5, (ccA L k).1), (9, v0), (10, .int .i64 L.length), (11, .int .i64 k)] a) No 9 No := by
  refine T3.leaf ?_
  rintro Q JS JX JT K hS hK hX hE hT hR a w ⟨hpre, hW, ⟨fr, rfl, q0, q3, q9, q10, q11, _⟩⟩
  have hpp := Lib.hid hpre
  obtain ⟨hk0, hk1⟩ := hpre
  have hn := h.n
  obtain rfl : w = w0 := hW
  have hv : (L.map (·.1))[k.toNat]? = some (ccA L k).1 := by
    have : k.toNat < L.length := by omega
    simp [ccA, this]
  rcases h.r.2 with ⟨rfl, h0⟩ | ⟨bz, off, cap, rfl, _, hbz, hnc, hcm, hcell⟩
  · omega
  have t0 := hcell _ _ hv
  clear hcell hv
  generalize (ccA L k).1 = vk at *
  rw [fr_ccP, show fr 0 = _ from q0, show fr 3 = _ from q3, show fr 9 = _ from q9, show fr 10 = _ from q10, show fr 11 = _ from q11]
  clear q0 q3 q9 q10 q11
  conv => arg 2; whnf
  go_wp2_with fail
  refine Met.intro (hS _ _ ?_)
  exact ⟨hpp.out, rfl, Fr.of _ rfl ⟨rfl, rfl, rfl, rfl, rfl, rfl, trivial⟩⟩

set_option maxRecDepth 100000 in
set_option maxHeartbeats 1000000 in
theorem cc5 (w0 : World) (v0 : Value) (L : List (Value × List (Int × Int))) (h : CcH w0 v0 L) (k : Int) : T3 Try.prog (fun a w => (0 ≤ k ∧ k < L.length) ∧ (IsW w0 w) ∧ Fr 36 [(0, v0), (3, .int .i64 (ccN L (k : Int).toNat : Nat)), (5, (ccA L k).1), (9, v0), (10, .int .i64 L.length), (11, .int .i64 k)] a) (sel [1, 1, 0, 1, 4, 4, 1, 1, 0, 4, 1, 0] ccP) (fun a w => (0 ≤ k ∧ k < L.length) ∧ (IsW w0 w) ∧ Fr 36 [(0, v0), (3, .int .i64 (ccN L ((k + 1) : Int).toNat : Nat)), (5, (ccA L k).1), (9, v0), (10, .int .i64 L.length), (11, .int .i64 k)] a) No 9 No := by
  refine T3.leaf ?_
  rintro Q JS JX JT K hS hK hX hE hT hR a w ⟨hpre, hW, ⟨fr, rfl, q0, q3, q5, q9, q10, q11, _⟩⟩
  have hpp := Lib.hid hpre
  obtain ⟨hk0, hk1⟩ := hpre
  have hn := h.n
  have hb := ccN_b h k.toNat (by omega)
  have hm := h.e _ (ccA_mem (L := L) hk0 hk1)
  have hmn := hm.n
  have HS := Lib.hid (show ((ccN L (k + 1).toNat : Nat) : Int) = (ccN L k.toNat : Nat) + ((ccA L k).2.length : Int) by
    rw [show (k + 1).toNat = k.toNat + 1 by omega]
    show ((ccN L k.toNat + (ccA L k).2.length : Nat) : Int) = _
    omega)
  obtain ⟨p5, c5, hv5⟩ := hm.r.shape
  clear hm
  obtain ⟨p1, c1, hv1⟩ := h.r.shape
  subst hv1
  generalize (ccA L k).1 = vk at *
  subst hv5
  generalize (ccA L k).2.length = m at *
  generalize ccN L k.toNat = c at *
  generalize ccN L (k + 1).toNat = c' at *
  rw [fr_ccP, show fr 0 = _ from q0, show fr 3 = _ from q3, show fr 5 = _ from q5, show fr 9 = _ from q9, show fr 10 = _ from q10, show fr 11 = _ from q11]
  clear q0 q3 q5 q9 q10 q11
  conv => arg 2; whnf
  go_wp2_with fail
  refine Met.intro (hS _ _ ?_)
  refine ⟨hpp.out, hW, ?_⟩
  rw [HS.out]
  exact Fr.of _ rfl ⟨rfl, rfl, rfl, rfl, rfl, rfl, trivial⟩

set_option maxRecDepth 100000 in
set_option maxHeartbeats 1000000 in
theorem cc6 (w0 : World) (v0 : Value) (L : List (Value × List (Int × Int))) (h : CcH w0 v0 L) (k : Int) : T3 Try.prog (fun a w => (0 ≤ k ∧ k < L.length) ∧ (IsW w0 w) ∧ Fr 36 [(0, v0), (3, .int .i64 (ccN L ((k + 1) : Int).toNat : Nat)), (9, v0), (10, .int .i64 L.length), (11, .int .i64 k)] a) (sel [1, 1, 0, 1, 4, 4, 1, 1, 0, 4, 1, 1, 0] ccP) (fun a w => ∃ q, Fr 36 ((20, .bool q) :: [(0, v0), (3, .int .i64 (ccN L ((k + 1) : Int).toNat : Nat)), (9, v0), (10, .int .i64 L.length), (11, .int .i64 k)]) a ∧ ((q = false) ∧ IsW w0 w)) No 9 No := by
  refine T3.leaf ?_
  rintro Q JS JX JT K hS hK hX hE hT hR a w ⟨hpre, hW, ⟨fr, rfl, q0, q3, q9, q10, q11, _⟩⟩
  obtain ⟨p1, c1, hv1⟩ := h.r.shape
  subst hv1
  have hc0 : (0 : Int) ≤ (ccN L (k + 1).toNat : Nat) := by omega
  generalize ccN L (k + 1).toNat = c' at *
  rw [fr_ccP, show fr 0 = _ from q0, show fr 3 = _ from q3, show fr 9 = _ from q9, show fr 10 = _ from q10, show fr 11 = _ from q11]
  clear q0 q3 q9 q10 q11
  conv => arg 2; whnf
  go_wp2_with fail
  refine Met.intro (hS _ _ ?_)
  exact ⟨_, Fr.of _ rfl ⟨rfl, rfl, rfl, rfl, rfl, rfl, trivial⟩, rfl, hW⟩

set_option maxRecDepth 100000 in
set_option maxHeartbeats 1000000 in
theorem ccb (w0 : World) (v0 : Value) (L : List (Value × List (Int × Int))) (h : CcH w0 v0 L) (k : Int) : T3 Try.prog (fun a w => (0 ≤ k ∧ k < L.length) ∧ (IsW w0 w) ∧ Fr 36 [(0, v0), (3, .int .i64 (ccN L (k : Int).toNat : Nat)), (9, v0), (10, .int .i64 L.length), (11, .int .i64 k)] a) (sel [1, 1, 0, 1, 4, 4, 1, 1, 0] ccP) (fun a w => (0 ≤ k ∧ k < L.length) ∧ (IsW w0 w) ∧ Fr 36 [(0, v0), (3, .int .i64 (ccN L ((k + 1) : Int).toNat : Nat)), (9, v0), (10, .int .i64 L.length), (11, .int .i64 k)] a) No 100 No := by
  refine T3.block (id' := 1) (c := (sel [1, 1, 0, 1, 4, 4, 1, 1, 0, 4] ccP)) (by decide) ?_
  refine T3.seq (s := (sel [1, 1, 0, 1, 4, 4, 1, 1, 0, 4, 0] ccP)) (c := (sel [1, 1, 0, 1, 4, 4, 1, 1, 0, 4, 1] ccP)) ((cc4 w0 v0 L h k).noX) ?_
  refine T3.seq (s := (sel [1, 1, 0, 1, 4, 4, 1, 1, 0, 4, 1, 0] ccP)) (c := (sel [1, 1, 0, 1, 4, 4, 1, 1, 0, 4, 1, 1] ccP)) ((cc5 w0 v0 L h k).noX) ?_
  refine T3.pre (R := (fun a w => (0 ≤ k ∧ k < L.length) ∧ (IsW w0 w) ∧ Fr 36 [(0, v0), (3, .int .i64 (ccN L ((k + 1) : Int).toNat : Nat)), (9, v0), (10, .int .i64 L.length), (11, .int .i64 k)] a)) ?_ (fun a w q => ⟨q.1, q.2.1, q.2.2.sub (by simp)⟩)
  refine T3.pre (R := fun a w => (0 ≤ k ∧ k < L.length) ∧ (0 ≤ k ∧ k < L.length) ∧ (IsW w0 w) ∧ Fr 36 [(0, v0), (3, .int .i64 (ccN L ((k + 1) : Int).toNat : Nat)), (9, v0), (10, .int .i64 L.length), (11, .int .i64 k)] a) (T3.pure fun hk => ?_) (fun a w q => ⟨q.1, q⟩)
  refine T3.test (s := (sel [1, 1, 0, 1, 4, 4, 1, 1, 0, 4, 1, 1, 0] ccP)) (x := (sel [1, 1, 0, 1, 4, 4, 1, 1, 0, 4, 1, 1, 1, 2] ccP)) (y := .skip) (C := fun q => (q = false)) (W := fun w => IsW w0 w) (by decide) ((cc6 w0 v0 L h k).noX) ?_ (T3.skip ?_)
  · exact T3.pre (R := fun a w => False ∧ True) (T3.pure fun hf => hf.elim) (fun a w q => by cases q.2.1)
  · rintro a w ⟨hq, hW, hF⟩
    exact ⟨hk, hW, hF⟩

def ccI (w0 : World) (v0 : Value) (L : List (Value × List (Int × Int))) (h : CcH w0 v0 L) (k : Int) (a : Act) (w : World) : Prop := (0 ≤ k ∧ k ≤ L.length) ∧ (IsW w0 w) ∧ Fr 36 [(0, v0), (3, .int .i64 (ccN L (k : Int).toNat : Nat)), (9, v0), (10, .int .i64 L.length), (11, .int .i64 k)] a
set_option maxRecDepth 100000 in
set_option maxHeartbeats 1000000 in
theorem cct (w0 : World) (v0 : Value) (L : List (Value × List (Int × Int))) (h : CcH w0 v0 L) (k : Int) : T3 Try.prog (fun a w => ccI w0 v0 L h k a w) (sel [1, 1, 0, 1, 4, 4, 0] ccP) (fun a w => ∃ q, Fr 36 ((12, .bool q) :: [(11, .int .i64 k)]) a ∧ ((q = true ↔ k < L.length) ∧ ccI w0 v0 L h k a w)) No 9 No := by
  refine T3.leaf ?_
  rintro Q JS JX JT K hS hK hX hE hT hR a w ⟨hk, hW, ⟨fr, rfl, q0, q3, q9, q10, q11, _⟩⟩
  have hLn := h.n
  rw [fr_ccP, show fr 0 = _ from q0, show fr 3 = _ from q3, show fr 9 = _ from q9, show fr 10 = _ from q10, show fr 11 = _ from q11]
  clear q0 q3 q9 q10 q11
  conv => arg 2; whnf
  by_cases hlt : k < L.length
  · go_wp2_with fail
    refine Met.intro (hS _ _ ?_)
    exact ⟨true, Fr.of _ rfl ⟨rfl, rfl, trivial⟩, ⟨fun _ => hlt, fun _ => rfl⟩, hk, hW, Fr.of _ rfl ⟨rfl, rfl, rfl, rfl, rfl, trivial⟩⟩
  · have hpb : decide (k < (L.length : Int)) = false := by simp; omega
    go_wp2_with fail
    refine Met.intro (hS _ _ ?_)
    exact ⟨false, Fr.of _ rfl ⟨rfl, rfl, trivial⟩, ⟨(fun h => by cases h), fun h => absurd h (by omega)⟩, hk, hW, Fr.of _ rfl ⟨rfl, rfl, rfl, rfl, rfl, trivial⟩⟩

set_option maxRecDepth 100000 in
set_option maxHeartbeats 1000000 in
theorem ccn (w0 : World) (v0 : Value) (L : List (Value × List (Int × Int))) (h : CcH w0 v0 L) (k : Int) : T3 Try.prog (fun a w => (0 ≤ k ∧ k < L.length) ∧ (IsW w0 w) ∧ Fr 36 [(0, v0), (3, .int .i64 (ccN L ((k + 1) : Int).toNat : Nat)), (9, v0), (10, .int .i64 L.length), (11, .int .i64 k)] a) (sel [1, 1, 0, 1, 4, 4, 1, 1, 1] ccP) (fun a w => ccI w0 v0 L h (k + 1) a w) No 9 No := by
  refine T3.leaf ?_
  rintro Q JS JX JT K hS hK hX hE hT hR a w ⟨hk, hW, ⟨fr, rfl, q0, q3, q9, q10, q11, _⟩⟩
  obtain ⟨hk0, hk1⟩ := hk
  have hLn := h.n
  rw [fr_ccP, show fr 0 = _ from q0, show fr 3 = _ from q3, show fr 9 = _ from q9, show fr 10 = _ from q10, show fr 11 = _ from q11]
  clear q0 q3 q9 q10 q11
  conv => arg 2; whnf
  go_wp2_with fail
  refine Met.intro (hS _ _ ?_)
  exact ⟨⟨by omega, by omega⟩, hW, Fr.of _ rfl ⟨rfl, rfl, rfl, rfl, rfl, trivial⟩⟩

set_option maxRecDepth 100000 in
set_option maxHeartbeats 1000000 in
theorem ccloop (w0 : World) (v0 : Value) (L : List (Value × List (Int × Int))) (h : CcH w0 v0 L) : T3 Try.prog (fun a w => ccI w0 v0 L h 0 a w) (sel [1, 1, 0, 1] ccP) (fun a w => (IsW w0 w) ∧ Fr 36 [(0, v0), (3, .int .i64 (ccN L L.length : Nat))] a) No 9 No := by
  refine T3.loop (c := (sel [1, 1, 0, 1, 4, 4] ccP)) (fun ng_ a w => ∃ k : Int, (ng_ : Int) = L.length - k ∧ ccI w0 v0 L h k a w) (fun a w h => ⟨(L.length : Int).toNat, 0, by have := h.1.2; omega, h⟩) (fun ng_ => T3.ex fun k => T3.pure fun hng_ => ?_)
  refine T3.seq (s := (sel [1, 1, 0, 1, 4, 4, 0] ccP)) (c := (sel [1, 1, 0, 1, 4, 4, 1] ccP)) ((cct w0 v0 L h k).noX) ?_
  refine T3.seq (s := (sel [1, 1, 0, 1, 4, 4, 1, 0] ccP)) (c := (sel [1, 1, 0, 1, 4, 4, 1, 1] ccP)) (S := fun a w => (0 ≤ k ∧ k < L.length) ∧ (IsW w0 w) ∧ Fr 36 [(0, v0), (3, .int .i64 (ccN L (k : Int).toNat : Nat)), (9, v0), (10, .int .i64 L.length), (11, .int .i64 k)] a) ?_ (T3.seq (s := (sel [1, 1, 0, 1, 4, 4, 1, 1, 0] ccP)) (c := (sel [1, 1, 0, 1, 4, 4, 1, 1, 1] ccP)) (S := fun a w => (0 ≤ k ∧ k < L.length) ∧ (IsW w0 w) ∧ Fr 36 [(0, v0), (3, .int .i64 (ccN L ((k + 1) : Int).toNat : Nat)), (9, v0), (10, .int .i64 L.length), (11, .int .i64 k)] a) (T3.noX (ccb w0 v0 L h k)) ?_)
  · refine T3.cond (o := .tmp 12) (x := .skip) (y := .exit 0) (fun a w => k < L.length ∧ ccI w0 v0 L h k a w) (fun a w => ¬ k < L.length ∧ ccI w0 v0 L h k a w) ?_ (T3.skip ?_) (T3.exit ?_)
    · rintro a w ⟨q, hF, hq, hI⟩
      have he := hF.eval 12 (by decide) (v := .bool q) (by simp)
      cases q
      · exact .inr ⟨he, (fun h => by have := hq.2 h; cases this), hI⟩
      · exact .inl ⟨he, hq.1 rfl, hI⟩
    · rintro a w ⟨hlt, hk, hI⟩
      exact ⟨⟨hk.1, hlt⟩, hI⟩
    · rintro a w ⟨hlt, hk, hI⟩
      obtain rfl : k = L.length := by omega
      obtain ⟨hW, hF⟩ := hI
      rw [show ((L.length : Nat) : Int).toNat = L.length by omega] at hF
      exact ⟨hW, hF.sub (by simp)⟩
  · intro a w hx
    have hk := hx.1
    exact (((ccn w0 v0 L h k).noX).post (fun a w q => ⟨ng_ - 1, by omega, k + 1, by omega, q⟩)) a w hx
end Go.Proofs.Ytkdimgghljklmaa
/-
  Finals: lists of fractions joined by the library (slices.Concat), as a contract. Conditions: at most 10 lists of at most 1000000 each.
-/
set_option linter.unusedVariables false
namespace Go.Bw
open Go.RowKit
/-- append of a row that can be read. -/
theorem app_row {P : Program} {ops : Array Oper} {rest : List Oper} {o : Oper} {a : Act} {Q : Exit → Act → World → Prop} {W : World} (hgd : o.guard = none) (s x : Operand) (t : TypeId)
    (ho : o.op = .call { callee := .builtin .append, args := #[s, x], argTypes := #[t, t] })
    {e : TypeId} {z : Value} {size bytes : Nat} (E : Elem P t e z size bytes) {base b2 : Nat} {v vx : Value} {n m : Nat} {xs ys : List Value} (hown : W.ownsRow base e size v n xs) (hs : a.eval s = v)
    (hox : Row W b2 size vx m ys) (hx : a.eval x = vx) (h1 : ∀ u ∈ ys, u.oneCell' = true) (hlim : n + m ≤ 1099511627776) (hbase : base ≤ W.heap.size)
    (h : ∀ v' w', w'.ownsRow base e size v' (n + m) (xs ++ ys) → W.grownBy w' v.ownBlock → wpList P ops Q rest (a.put o.dst v') w') : wpList P ops Q (o :: rest) a W := by
  obtain ⟨i, hi, hz0, hz1, hz2⟩ := info_parts E.hi
  rcases hox.2 with ⟨rfl, h0⟩ | ⟨g, off, cap, rfl, _, _, _, _, hc⟩
  · subst h0
    have hy : ys = [] := List.length_eq_zero_iff.1 (by have := hox.1; simpa using this)
    subst hy
    refine wpList_append_own_none hgd s x t ho base e i size E.ht hi v n xs hs hown hx (h v W ?_ (grown_refl _ _))
    simpa using hown
  · refine wpList_append_own W hgd s x t ho base e i z size bytes E.ht hi hz0 hz1 hz2 E.hz E.hs v n xs hs hown ⟨g, off, none⟩ m cap ys hx hox.1 (fun j u hj => ?_) h1 (by unfold maxLen; omega) ?_ hbase (fun v' w' h1 h2 _ => h v' w' h1 h2)
    · rw [Addr.add_lit]
      exact hc j u hj
    · have := Nat.mul_le_mul hlim E.hb
      omega
end Go.Bw
namespace Go.Proofs.Ytkdimgghljklmaa
open Go.RowKit Go.Bw
theorem el_fracL : Elem Try.prog 55 37 (.agg #[.int .i64 0, .int .i64 0]) 2 16 := ⟨by kernel_rfl, by kernel_rfl, by kernel_rfl, by decide, by decide⟩
theorem cells2_one (l : List (Int × Int)) : ∀ u ∈ cells2 l, u.oneCell' = true := by
  intro u hu
  simp only [cells2, List.mem_flatMap] at hu
  obtain ⟨p, _, hp⟩ := hu
  simp at hp
  rcases hp with rfl | rfl <;> rfl
theorem cells2_app (l m : List (Int × Int)) : cells2 (l ++ m) = cells2 l ++ cells2 m := by simp [cells2]
set_option maxRecDepth 100000 in
set_option maxHeartbeats 4000000 in
/-- slices.Grow of the nil slice: a slice of no elements that is the call's own. -/
theorem grow_nil (m : Nat) (hm : m ≤ 10000000) (w : World) : Calls Try.prog 84 #[.slice none 0 0, .int .i64 m] w fun e w' =>
    ∃ v, e = .returned v ∧ w'.ownsRow w.heap.size 37 2 v 0 [] ∧ Below w.heap.size w w' := by
  by_cases h0 : m = 0
  · subst h0
    go_enter Try.func84, Try.ntmps84
    go_wp2_with fail
    go_ret
    exact ⟨_, rfl, World.ownsRow_nil _ _ _ _, Below.refl _ _⟩
  · obtain ⟨i, hi, hz0, hz1, hz2⟩ := info_parts el_fracL.hi
    have hrz : ∀ ty, (Builtin.append_ #[55, 3] ty #[.slice none 0 0, .int .i64 (m : Int)]).run Try.prog w =
        .ok (.slice (some ⟨w.heap.size, 0, none⟩) m (grownCap w m 0 37)) (w.drew.alloc (.cells (#[] ++ Builtin.zeroCells (Value.agg #[.int .i64 0, .int .i64 0]).cells m ++ Builtin.zeroCells (Value.agg #[.int .i64 0, .int .i64 0]).cells (grownCap w m 0 37 - m)) 37)) := fun ty => by
      have h := Lib.run_append_grow_zeros (P := Try.prog) w 55 3 ty 37 i _ .i64 .i64 (by kernel_rfl) (by kernel_rfl) hi hz0 none 0 0 [] (run_firstCells_none w.drew i.size 0 0 0) m (by omega) (by omega) (by omega) (by omega) (by rw [hz2]; omega) (by
        rw [Nat.zero_add]
        exact growslice_fits (by omega) (by rw [hz2]; omega))
      simpa using h
    have hGn : m ≤ grownCap w m 0 37 := grownCap_ge w _ _ _
    have hGm : grownCap w m 0 37 ≤ maxLen := grownCap_le_maxLen w m 0 37 (by unfold maxLen; omega)
    generalize grownCap w m 0 37 = G at hrz hGn hGm
    have HO := Lib.hid (show (w.drew.alloc (.cells (#[] ++ Builtin.zeroCells (Value.agg #[.int .i64 0, .int .i64 0]).cells m ++ Builtin.zeroCells (Value.agg #[.int .i64 0, .int .i64 0]).cells (G - m)) 37)).ownsRow w.heap.size 37 2 (.slice (some ⟨w.heap.size, 0, none⟩) 0 G) 0 [] from by
      refine ⟨rfl, .inr ⟨w.heap.size, G, _, rfl, Nat.le_refl _, heap_alloc_new w.drew _, Nat.zero_le _, hGm, ?_, by simp⟩⟩
      rw [Array.size_append, Array.size_append, size_zeroCells, size_zeroCells]
      simp [Value.cells]
      omega)
    have HB := Lib.hid (show Below w.heap.size w (w.drew.alloc (.cells (#[] ++ Builtin.zeroCells (Value.agg #[.int .i64 0, .int .i64 0]).cells m ++ Builtin.zeroCells (Value.agg #[.int .i64 0, .int .i64 0]).cells (G - m)) 37)) from (show Below w.heap.size w w.drew from below_drewN (Below.refl w.heap.size w) 1).alloc (Nat.le_refl _) _)
    have hG63 : G ≤ 9223372036854775807 := hGm
    have h1 : ¬ ((m : Int) < 0) := by omega
    have h3 : wrap64 (m : Int) = (m : Int) := by unfold wrap64; omega
    have h4 : (m : Int) > 0 := by omega
    clear hi hz0 hz1 hz2 hGm
    generalize w.drew.alloc (.cells (#[] ++ Builtin.zeroCells (Value.agg #[.int .i64 0, .int .i64 0]).cells m ++ Builtin.zeroCells (Value.agg #[.int .i64 0, .int .i64 0]).cells (G - m)) 37) = w1 at hrz HO HB
    go_enter Try.func84, Try.ntmps84
    go_wp2_with (at_builtin; refine Lib.wpList_append_run _ rfl _ _ _ _ rfl _ _ rfl rfl _ _ (hrz _) ?_)
    go_ret
    exact ⟨_, rfl, HO.out, HB.out⟩
def ccJ (L : List (Value × List (Int × Int))) : Nat → List (Int × Int)
  | 0 => []
  | k + 1 => ccJ L k ++ (ccA L (k : Int)).2
theorem ccJ_b {w : World} {v : Value} {L : List (Value × List (Int × Int))} (h : CcH w v L) : ∀ k : Nat, k ≤ L.length → (ccJ L k).length ≤ 1000000 * k
  | 0, _ => Nat.le_refl _
  | k + 1, hk => by
    have ih := ccJ_b h k (by omega)
    have hm := (h.e _ (ccA_mem (L := L) (k := (k : Int)) (by omega) (by omega))).n
    show (ccJ L k ++ (ccA L (k : Int)).2).length ≤ _
    rw [List.length_append]
    omega
theorem LgH.from {w0 w : World} {v : Value} {xs : List (Int × Int)} (h : LgH w0 v xs) (b : Below w0.heap.size w0 w) : LgH w v xs := h.below b
/-- The lists joined so far. -/
structure CcW (w0 : World) (L : List (Value × List (Int × Int))) (v : Value) (k : Nat) (w : World) : Prop where
  bel : Below w0.heap.size w0 w
  own : w.ownsRow w0.heap.size 37 2 v (ccJ L k).length (cells2 (ccJ L k))
theorem CcW.app {w0 w w' : World} {L : List (Value × List (Int × Int))} {v v' : Value} {k : Int} (h : CcW w0 L v k.toNat w) (h0 : 0 ≤ k) (ho : w'.ownsRow w0.heap.size 37 2 v' ((ccJ L k.toNat).length + (ccA L k).2.length) (cells2 (ccJ L k.toNat) ++ cells2 (ccA L k).2)) (g : w.grownBy w' v.ownBlock) : CcW w0 L v' (k + 1).toNat w' := by
  have e : ccJ L (k + 1).toNat = ccJ L k.toNat ++ (ccA L k).2 := by
    rw [show (k + 1).toNat = k.toNat + 1 by omega]
    show ccJ L k.toNat ++ (ccA L (k.toNat : Int)).2 = _
    rw [Int.toNat_of_nonneg h0]
  refine ⟨h.bel.grown g h.bel.size (fun j hj => (h.own.lt j hj).1), ?_⟩
  rw [e, cells2_app, List.length_append]
  exact ho
set_option maxRecDepth 100000 in
set_option maxHeartbeats 1000000 in
theorem cc9 (w0 : World) (v0 : Value) (L : List (Value × List (Int × Int))) (h : CcH w0 v0 L) : T3 Try.prog (fun a w => (IsW w0 w) ∧ Fr 36 [(0, v0), (3, .int .i64 (ccN L L.length : Nat))] a) (sel [1, 1, 1, 0] ccP) (fun a w => ∃ (v6 : Value), (CcW w0 L v6 0 w) ∧ Fr 36 [(0, v0), (6, v6)] a) No 9 No := by
  refine T3.leaf ?_
  rintro Q JS JX JT K hS hK hX hE hT hR a w ⟨hW, ⟨fr, rfl, q0, q3, _⟩⟩
  have hb := ccN_b h L.length (Nat.le_refl _)
  have hn := h.n
  have HG := Lib.hid (grow_nil (ccN L L.length) (by omega) w)
  obtain ⟨p1, c1, hv1⟩ := h.r.shape
  subst hv1
  obtain rfl : w = w0 := hW
  generalize ccN L L.length = m at *
  clear hb h
  rw [fr_ccP, show fr 0 = _ from q0, show fr 3 = _ from q3]
  clear q0 q3
  conv => arg 2; whnf
  go_wp2_with fail
  refine HG.out.mono ?_
  rintro e w1 ⟨v6, rfl, ho, hbl⟩
  obtain ⟨p6, c6, hv6⟩ := (Row.of_owns ho).shape
  subst hv6
  have HR := Lib.hid (show CcW _ L _ 0 w1 from ⟨hbl, ho⟩)
  clear ho hbl
  go_wp2_with fail
  refine Met.intro (hS _ _ ?_)
  exact ⟨_, HR.out, Fr.of _ rfl ⟨rfl, rfl, trivial⟩⟩

set_option maxRecDepth 100000 in
set_option maxHeartbeats 1000000 in
theorem cc10 (w0 : World) (v0 : Value) (L : List (Value × List (Int × Int))) (h : CcH w0 v0 L) (v6 : Value) : T3 Try.prog (fun a w => (CcW w0 L v6 0 w) ∧ Fr 36 [(0, v0), (6, v6)] a) (sel [1, 1, 1, 1, 0, 0] ccP) (fun a w => (0 ≤ (0 : Int) ∧ (0 : Int) ≤ L.length) ∧ ∃ (v6 : Value), (CcW w0 L v6 (0 : Int).toNat w) ∧ Fr 36 [(6, v6), (25, v0), (26, .int .i64 L.length), (27, .int .i64 0)] a) No 9 No := by
  refine T3.leaf ?_
  rintro Q JS JX JT K hS hK hX hE hT hR a w ⟨hW, ⟨fr, rfl, q0, q6, _⟩⟩
  have HW := Lib.hid hW
  obtain ⟨p1, c1, hv1⟩ := h.r.shape
  subst hv1
  obtain ⟨p6, c6, hv6⟩ := (Row.of_owns hW.own).shape
  subst hv6
  clear hW
  rw [fr_ccP, show fr 0 = _ from q0, show fr 6 = _ from q6]
  clear q0 q6
  conv => arg 2; whnf
  go_wp2_with fail
  refine Met.intro (hS _ _ ?_)
  exact ⟨⟨by omega, by omega⟩, _, HW.out, Fr.of _ rfl ⟨rfl, rfl, rfl, rfl, trivial⟩⟩

set_option maxRecDepth 100000 in
set_option maxHeartbeats 1000000 in
theorem cc12 (w0 : World) (v0 : Value) (L : List (Value × List (Int × Int))) (h : CcH w0 v0 L) (k : Int) : T3 Try.prog (fun a w => ∃ (v6 : Value), (0 ≤ k ∧ k < L.length) ∧ (CcW w0 L v6 (k : Int).toNat w) ∧ Fr 36 [(6, v6), (25, v0), (26, .int .i64 L.length), (27, .int .i64 k)] a) (sel [1, 1, 1, 1, 0, 1, 4, 4, 1, 1, 0, 4, 0] ccP) (fun a w => ∃ (v6 : Value), (0 ≤ k ∧ k < L.length) ∧ (CcW w0 L v6 (k : Int).toNat w) ∧ Fr 36 [(6, v6), (8, (ccA L k).1), (25, v0), (26, .int .i64 L.length), (27, .int .i64 k)] a) No 9 No := by
  refine T3.leaf ?_
  rintro Q JS JX JT K hS hK hX hE hT hR a w ⟨v6, hpre, hW, ⟨fr, rfl, q6, q25, q26, q27, _⟩⟩
  have hpp := Lib.hid hpre
  obtain ⟨hk0, hk1⟩ := hpre
  have hn := h.n
  have HW := Lib.hid hW
  have hv : (L.map (·.1))[k.toNat]? = some (ccA L k).1 := by
    have : k.toNat < L.length := by omega
    simp [ccA, this]
  obtain ⟨p6, c6, hv6⟩ := (Row.of_owns hW.own).shape
  rcases (h.r.below hW.bel).2 with ⟨rfl, h0⟩ | ⟨bz, off, cap, rfl, _, hbz, hnc, hcm, hcell⟩
  · omega
  have t0 := hcell _ _ hv
  clear hcell hv hW
  subst hv6
  generalize (ccA L k).1 = vk at *
  rw [fr_ccP, show fr 6 = _ from q6, show fr 25 = _ from q25, show fr 26 = _ from q26, show fr 27 = _ from q27]
  clear q6 q25 q26 q27
  conv => arg 2; whnf
  go_wp2_with fail
  refine Met.intro (hS _ _ ?_)
  exact ⟨_, hpp.out, HW.out, Fr.of _ rfl ⟨rfl, rfl, rfl, rfl, rfl, trivial⟩⟩

set_option maxRecDepth 100000 in
set_option maxHeartbeats 1000000 in
theorem cc13 (w0 : World) (v0 : Value) (L : List (Value × List (Int × Int))) (h : CcH w0 v0 L) (k : Int) (v6 : Value) : T3 Try.prog (fun a w => (0 ≤ k ∧ k < L.length) ∧ (CcW w0 L v6 (k : Int).toNat w) ∧ Fr 36 [(6, v6), (8, (ccA L k).1), (25, v0), (26, .int .i64 L.length), (27, .int .i64 k)] a) (sel [1, 1, 1, 1, 0, 1, 4, 4, 1, 1, 0, 4, 1] ccP) (fun a w => ∃ (v6 : Value), (0 ≤ k ∧ k < L.length) ∧ (CcW w0 L v6 ((k + 1) : Int).toNat w) ∧ Fr 36 [(6, v6), (25, v0), (26, .int .i64 L.length), (27, .int .i64 k)] a) No 9 No := by
  refine T3.leaf ?_
  rintro Q JS JX JT K hS hK hX hE hT hR a w ⟨hpre, hW, ⟨fr, rfl, q6, q8, q25, q26, q27, _⟩⟩
  have hpp := Lib.hid hpre
  obtain ⟨hk0, hk1⟩ := hpre
  have hn := h.n
  have hb := ccJ_b h k.toNat (by omega)
  have hmr := ((h.e _ (ccA_mem hk0 hk1)).from hW.bel).r
  have hmn := (h.e _ (ccA_mem hk0 hk1)).n
  have hone := cells2_one (ccA L k).2
  have HA := Lib.hid (fun v' w' ho g => CcW.app (v' := v') (w' := w') hW hk0 ho g)
  have hown := hW.own
  have hbs := hW.bel.size
  have hE := el_fracL
  obtain ⟨p6, c6, hv6⟩ := (Row.of_owns hW.own).shape
  subst hv6
  obtain ⟨p8, c8, hv8⟩ := hmr.shape
  clear hW
  obtain ⟨p1, c1, hv1⟩ := h.r.shape
  subst hv1
  clear h
  generalize (ccA L k).1 = vk at *
  subst hv8
  rw [fr_ccP, show fr 6 = _ from q6, show fr 8 = _ from q8, show fr 25 = _ from q25, show fr 26 = _ from q26, show fr 27 = _ from q27]
  clear q6 q8 q25 q26 q27
  conv => arg 2; whnf
  go_wp2_with (at_builtin; refine app_row rfl _ _ _ rfl hE hown rfl hmr rfl hone (by omega) hbs ?_; intro v' w3 hown3 hgr)
  refine Met.intro (hS _ _ ?_)
  exact ⟨v', hpp.out, HA.out v' w3 hown3 hgr, Fr.of _ rfl ⟨rfl, rfl, rfl, rfl, trivial⟩⟩

set_option maxRecDepth 100000 in
set_option maxHeartbeats 1000000 in
theorem cdb (w0 : World) (v0 : Value) (L : List (Value × List (Int × Int))) (h : CcH w0 v0 L) (k : Int) : T3 Try.prog (fun a w => ∃ (v6 : Value), (0 ≤ k ∧ k < L.length) ∧ (CcW w0 L v6 (k : Int).toNat w) ∧ Fr 36 [(6, v6), (25, v0), (26, .int .i64 L.length), (27, .int .i64 k)] a) (sel [1, 1, 1, 1, 0, 1, 4, 4, 1, 1, 0] ccP) (fun a w => ∃ (v6 : Value), (0 ≤ k ∧ k < L.length) ∧ (CcW w0 L v6 ((k + 1) : Int).toNat w) ∧ Fr 36 [(6, v6), (25, v0), (26, .int .i64 L.length), (27, .int .i64 k)] a) No 9 No := T3.block (id' := 3) (c := (sel [1, 1, 1, 1, 0, 1, 4, 4, 1, 1, 0, 4] ccP)) (by decide) (T3.seq (s := (sel [1, 1, 1, 1, 0, 1, 4, 4, 1, 1, 0, 4, 0] ccP)) (c := (sel [1, 1, 1, 1, 0, 1, 4, 4, 1, 1, 0, 4, 1] ccP)) (cc12 w0 v0 L h k) (T3.ex fun v6 => cc13 w0 v0 L h k v6))

def cdI (w0 : World) (v0 : Value) (L : List (Value × List (Int × Int))) (h : CcH w0 v0 L) (k : Int) (a : Act) (w : World) : Prop := (0 ≤ k ∧ k ≤ L.length) ∧ ∃ (v6 : Value), (CcW w0 L v6 (k : Int).toNat w) ∧ Fr 36 [(6, v6), (25, v0), (26, .int .i64 L.length), (27, .int .i64 k)] a
set_option maxRecDepth 100000 in
set_option maxHeartbeats 1000000 in
theorem cdt (w0 : World) (v0 : Value) (L : List (Value × List (Int × Int))) (h : CcH w0 v0 L) (k : Int) : T3 Try.prog (fun a w => cdI w0 v0 L h k a w) (sel [1, 1, 1, 1, 0, 1, 4, 4, 0] ccP) (fun a w => ∃ q, Fr 36 ((28, .bool q) :: [(27, .int .i64 k)]) a ∧ ((q = true ↔ k < L.length) ∧ cdI w0 v0 L h k a w)) No 9 No := by
  refine T3.leaf ?_
  rintro Q JS JX JT K hS hK hX hE hT hR a w ⟨hk, v6, hW, ⟨fr, rfl, q6, q25, q26, q27, _⟩⟩
  have hLn := h.n
  rw [fr_ccP, show fr 6 = _ from q6, show fr 25 = _ from q25, show fr 26 = _ from q26, show fr 27 = _ from q27]
  clear q6 q25 q26 q27
  conv => arg 2; whnf
  by_cases hlt : k < L.length
  · go_wp2_with fail
    refine Met.intro (hS _ _ ?_)
    exact ⟨true, Fr.of _ rfl ⟨rfl, rfl, trivial⟩, ⟨fun _ => hlt, fun _ => rfl⟩, hk, v6, hW, Fr.of _ rfl ⟨rfl, rfl, rfl, rfl, trivial⟩⟩
  · have hpb : decide (k < (L.length : Int)) = false := by simp; omega
    go_wp2_with fail
    refine Met.intro (hS _ _ ?_)
    exact ⟨false, Fr.of _ rfl ⟨rfl, rfl, trivial⟩, ⟨(fun h => by cases h), fun h => absurd h (by omega)⟩, hk, v6, hW, Fr.of _ rfl ⟨rfl, rfl, rfl, rfl, trivial⟩⟩

set_option maxRecDepth 100000 in
set_option maxHeartbeats 1000000 in
theorem cdn (w0 : World) (v0 : Value) (L : List (Value × List (Int × Int))) (h : CcH w0 v0 L) (k : Int) : T3 Try.prog (fun a w => (0 ≤ k ∧ k < L.length) ∧ ∃ (v6 : Value), (CcW w0 L v6 ((k + 1) : Int).toNat w) ∧ Fr 36 [(6, v6), (25, v0), (26, .int .i64 L.length), (27, .int .i64 k)] a) (sel [1, 1, 1, 1, 0, 1, 4, 4, 1, 1, 1] ccP) (fun a w => cdI w0 v0 L h (k + 1) a w) No 9 No := by
  refine T3.leaf ?_
  rintro Q JS JX JT K hS hK hX hE hT hR a w ⟨hk, v6, hW, ⟨fr, rfl, q6, q25, q26, q27, _⟩⟩
  obtain ⟨hk0, hk1⟩ := hk
  have hLn := h.n
  rw [fr_ccP, show fr 6 = _ from q6, show fr 25 = _ from q25, show fr 26 = _ from q26, show fr 27 = _ from q27]
  clear q6 q25 q26 q27
  conv => arg 2; whnf
  go_wp2_with fail
  refine Met.intro (hS _ _ ?_)
  exact ⟨⟨by omega, by omega⟩, v6, hW, Fr.of _ rfl ⟨rfl, rfl, rfl, rfl, trivial⟩⟩

set_option maxRecDepth 100000 in
set_option maxHeartbeats 1000000 in
theorem cdloop (w0 : World) (v0 : Value) (L : List (Value × List (Int × Int))) (h : CcH w0 v0 L) : T3 Try.prog (fun a w => cdI w0 v0 L h 0 a w) (sel [1, 1, 1, 1, 0, 1] ccP) (fun a w => ∃ (v6 : Value), (CcW w0 L v6 L.length w) ∧ Fr 36 [(6, v6)] a) No 9 No := by
  refine T3.loop (c := (sel [1, 1, 1, 1, 0, 1, 4, 4] ccP)) (fun ng_ a w => ∃ k : Int, (ng_ : Int) = L.length - k ∧ cdI w0 v0 L h k a w) (fun a w h => ⟨(L.length : Int).toNat, 0, by have := h.1.2; omega, h⟩) (fun ng_ => T3.ex fun k => T3.pure fun hng_ => ?_)
  refine T3.seq (s := (sel [1, 1, 1, 1, 0, 1, 4, 4, 0] ccP)) (c := (sel [1, 1, 1, 1, 0, 1, 4, 4, 1] ccP)) ((cdt w0 v0 L h k).noX) ?_
  refine T3.seq (s := (sel [1, 1, 1, 1, 0, 1, 4, 4, 1, 0] ccP)) (c := (sel [1, 1, 1, 1, 0, 1, 4, 4, 1, 1] ccP)) (S := fun a w => (0 ≤ k ∧ k < L.length) ∧ ∃ (v6 : Value), (CcW w0 L v6 (k : Int).toNat w) ∧ Fr 36 [(6, v6), (25, v0), (26, .int .i64 L.length), (27, .int .i64 k)] a) ?_ (T3.seq (s := (sel [1, 1, 1, 1, 0, 1, 4, 4, 1, 1, 0] ccP)) (c := (sel [1, 1, 1, 1, 0, 1, 4, 4, 1, 1, 1] ccP)) (S := fun a w => (0 ≤ k ∧ k < L.length) ∧ ∃ (v6 : Value), (CcW w0 L v6 ((k + 1) : Int).toNat w) ∧ Fr 36 [(6, v6), (25, v0), (26, .int .i64 L.length), (27, .int .i64 k)] a) (T3.noX (T3.mono (R' := fun a w => (0 ≤ k ∧ k < L.length) ∧ ∃ (v6 : Value), (CcW w0 L v6 (k : Int).toNat w) ∧ Fr 36 [(6, v6), (25, v0), (26, .int .i64 L.length), (27, .int .i64 k)] a) (S' := fun a w => (0 ≤ k ∧ k < L.length) ∧ ∃ (v6 : Value), (CcW w0 L v6 ((k + 1) : Int).toNat w) ∧ Fr 36 [(6, v6), (25, v0), (26, .int .i64 L.length), (27, .int .i64 k)] a) (cdb w0 v0 L h k) (fun a w ⟨hk, v6, hI⟩ => ⟨v6, hk, hI⟩) (fun a w ⟨v6, hk, hI⟩ => ⟨hk, v6, hI⟩) (fun _ _ q => q) (fun _ _ q => q))) ?_)
  · refine T3.cond (o := .tmp 28) (x := .skip) (y := .exit 2) (fun a w => k < L.length ∧ cdI w0 v0 L h k a w) (fun a w => ¬ k < L.length ∧ cdI w0 v0 L h k a w) ?_ (T3.skip ?_) (T3.exit ?_)
    · rintro a w ⟨q, hF, hq, hI⟩
      have he := hF.eval 28 (by decide) (v := .bool q) (by simp)
      cases q
      · exact .inr ⟨he, (fun h => by have := hq.2 h; cases this), hI⟩
      · exact .inl ⟨he, hq.1 rfl, hI⟩
    · rintro a w ⟨hlt, hk, hI⟩
      exact ⟨⟨hk.1, hlt⟩, hI⟩
    · rintro a w ⟨hlt, hk, hI⟩
      obtain rfl : k = L.length := by omega
      obtain ⟨v6, hW, hF⟩ := hI
      rw [show ((L.length : Nat) : Int).toNat = L.length by omega] at hW
      exact ⟨v6, hW, hF.sub (by simp)⟩
  · intro a w hx
    have hk := hx.1
    exact (((cdn w0 v0 L h k).noX).post (fun a w q => ⟨ng_ - 1, by omega, k + 1, by omega, q⟩)) a w hx
set_option maxRecDepth 100000 in
set_option maxHeartbeats 1000000 in
theorem cc15 (w0 : World) (v0 : Value) (L : List (Value × List (Int × Int))) (h : CcH w0 v0 L) (v6 : Value) : T3 Try.prog (fun a w => (CcW w0 L v6 L.length w) ∧ Fr 36 [(6, v6)] a) (sel [1, 1, 1, 1, 1, 0] ccP) (fun a w => (CcW w0 L v6 L.length w) ∧ Fr 36 [(2, v6)] a) No 9 No := by
  refine T3.leaf ?_
  rintro Q JS JX JT K hS hK hX hE hT hR a w ⟨hW, ⟨fr, rfl, q6, _⟩⟩
  have HW := Lib.hid hW
  obtain ⟨p6, c6, hv6⟩ := (Row.of_owns hW.own).shape
  subst hv6
  clear hW
  rw [fr_ccP, show fr 6 = _ from q6]
  clear q6
  conv => arg 2; whnf
  go_wp2_with fail
  refine Met.intro (hS _ _ ?_)
  exact ⟨HW.out, Fr.of _ rfl ⟨rfl, trivial⟩⟩

set_option maxRecDepth 100000 in
set_option maxHeartbeats 1000000 in
theorem cc_all (w0 : World) (v0 : Value) (L : List (Value × List (Int × Int))) (h : CcH w0 v0 L) : T3 Try.prog (fun a w => (IsW w0 w) ∧ Fr 36 [(0, v0)] a) ccP No No 9 (fun a w => ∃ v6 : Value, CcW w0 L v6 L.length w ∧ Fr 36 [(2, v6)] a) := by
  refine T3.seq (s := (sel [0] ccP)) (c := (sel [1] ccP)) (T3.noT (cc0 w0 v0 L h)) ?_
  refine T3.seq (s := (sel [1, 0] ccP)) (c := (sel [1, 1] ccP)) (T3.noT (cc1 w0 v0 L h)) ?_
  refine T3.seq (s := (sel [1, 1, 0] ccP)) (c := (sel [1, 1, 1] ccP)) (T3.noT (T3.seq (s := (sel [1, 1, 0, 0] ccP)) (c := (sel [1, 1, 0, 1] ccP)) (cc2 w0 v0 L h) (ccloop w0 v0 L h))) ?_
  refine T3.seq (s := (sel [1, 1, 1, 0] ccP)) (c := (sel [1, 1, 1, 1] ccP)) (T3.noT (cc9 w0 v0 L h)) ?_
  refine T3.ex fun v6 => ?_
  refine T3.seq (s := (sel [1, 1, 1, 1, 0] ccP)) (c := (sel [1, 1, 1, 1, 1] ccP)) (T3.noT (T3.seq (s := (sel [1, 1, 1, 1, 0, 0] ccP)) (c := (sel [1, 1, 1, 1, 0, 1] ccP)) (cc10 w0 v0 L h v6) (cdloop w0 v0 L h))) ?_
  refine T3.ex fun v6 => ?_
  exact T3.seq (s := (sel [1, 1, 1, 1, 1, 0] ccP)) (c := .ret) (T3.noT (cc15 w0 v0 L h v6)) (T3.ret fun a w q => ⟨v6, q⟩)

set_option maxRecDepth 100000 in
set_option maxHeartbeats 1000000 in
theorem concat_any (w0 : World) (v0 : Value) (L : List (Value × List (Int × Int))) (h : CcH w0 v0 L) : Calls Try.prog 68 #[v0] w0 fun e w' => ∃ v6 : Value, e = .returned v6 ∧ CcW w0 L v6 L.length w' := by
  have hall := cc_all w0 v0 L h
  go_enter Try.func68, Try.ntmps68
  refine T3.done (s := ccP) hall ⟨rfl, Fr.of _ rfl ⟨rfl, trivial⟩⟩ ?_
  rintro a w ⟨v6, hW, fr, rfl, q2, _⟩
  rw [fr_ccP, show fr 2 = _ from q2]
  go_ret
  exact ⟨v6, rfl, hW⟩
end Go.Proofs.Ytkdimgghljklmaa
/-
  Finals: who wins legs, the reference's LegsOf as a contract. Conditions: at most 1000000 legs; whole numbers are Go's.
-/
set_option linter.unusedVariables false
namespace Go.Proofs.Ytkdimgghljklmaa
open Go.RowKit Go.Bw
theorem cc_new {w : World} {va vb : Value} {xs ys : List (Int × Int)} (ha : LgH w va xs) (hb : LgH w vb ys) (e : TypeId) : CcH (w.alloc (.cells #[va, vb] e)) (.slice (some ⟨w.heap.size, 0, none⟩) 2 2) [(va, xs), (vb, ys)] := by
  have bl := (Below.refl w.heap.size w).alloc (Nat.le_refl _) (.cells #[va, vb] e)
  refine ⟨⟨rfl, .inr ⟨_, 0, 2, rfl, Nat.zero_le _, by simp, Nat.le_refl _, by decide, ?_⟩⟩, ?_, by simp⟩
  · intro i u hi
    match i, hi with
    | 0, hi => cases hi; exact cells_new w _ _ 0 _ rfl
    | 1, hi => cases hi; exact cells_new w _ _ 1 _ rfl
  · intro p hp
    simp at hp
    rcases hp with rfl | rfl
    · exact ha.from bl
    · exact hb.from bl
theorem ccJ_two (va vb : Value) (xs ys : List (Int × Int)) : ccJ [(va, xs), (vb, ys)] [(va, xs), (vb, ys)].length = xs ++ ys := by
  show ([] ++ (ccA [(va, xs), (vb, ys)] ((0 : Nat) : Int)).2) ++ (ccA [(va, xs), (vb, ys)] ((1 : Nat) : Int)).2 = _
  simp [ccA]
/-- The two lists joined, in new memory. -/
structure LoJ (w0 : World) (v : Value) (zs : List (Int × Int)) (w : World) : Prop where
  bel : Below w0.heap.size w0 w
  r : Row w 0 2 v zs.length (cells2 zs)
theorem LoJ.below {w0 w w' : World} {v : Value} {zs : List (Int × Int)} (h : LoJ w0 v zs w) (b : Below w.heap.size w w') : LoJ w0 v zs w' := ⟨h.bel.trans (b.mono h.bel.size), h.r.below b⟩
theorem legU_b0 {xs ys : List (Int × Int)} : ∀ k : Nat, NoErr (legK (xs ++ ys)) k → -100000000000000000 * (k : Int) ≤ legU xs ys k ∧ legU xs ys k ≤ 100000000000000000 * (k : Int)
  | 0, _ => ⟨by simp [legU], by simp [legU]⟩
  | k + 1, h => by
    have ih := legU_b0 (xs := xs) (ys := ys) k (fun j h0 h1 => h j h0 (by omega))
    have a := hund_b (h k (by omega) (by omega))
    have e : hundK (xs ++ ys) k = hund (getp (xs ++ ys) k).1 (getp (xs ++ ys) k).2 := rfl
    have e1 : legU xs ys (k + 1) = if k < xs.length then legU xs ys k + hundK (xs ++ ys) k else legU xs ys k - hundK (xs ++ ys) k := rfl
    split at e1 <;> omega
theorem legsR_len {xs ys : List (Int × Int)} (h : xs.length ≠ ys.length) : legsR xs ys = (0, 3) := by unfold legsR; rw [if_pos h]
theorem legsR_big {xs ys : List (Int × Int)} (h : xs.length = ys.length) (h8 : 8 < xs.length) : legsR xs ys = (0, 2) := by unfold legsR; rw [if_neg (by simp [h]), if_pos h8]
theorem legsR_bad0 {xs ys : List (Int × Int)} (h : xs.length = ys.length) (h8 : xs.length ≤ 8) {k : Int} (h0 : 0 ≤ k) (h1 : k < (xs ++ ys).length) (hn : NoErr (legK (xs ++ ys)) k) (hk : legK (xs ++ ys) k ≠ 0) : legsR xs ys = (0, legK (xs ++ ys) k) := by
  have e : legsE (xs ++ ys) = legK (xs ++ ys) k := firstErr_hit hn h0 h1 hk
  rw [legsE_append] at e
  unfold legsR
  rw [if_neg (by simp [h]), if_neg (by omega), if_pos (by rw [e]; exact hk), e]
theorem legsR_ok0 {xs ys : List (Int × Int)} (h : xs.length = ys.length) (h8 : xs.length ≤ 8) (hn : NoErr (legK (xs ++ ys)) (xs ++ ys).length) : legsR xs ys = (signZ (legU xs ys (xs ++ ys).length), 0) := by
  have e : legsE (xs ++ ys) = 0 := firstErr_none hn
  rw [legsE_append] at e
  rw [legU_all xs ys h]
  unfold legsR
  rw [if_neg (by simp [h]), if_neg (by omega), if_neg (by simp [e])]
theorem legsR_bad {xs ys zs : List (Int × Int)} (hzs : zs = xs ++ ys) (h : xs.length = ys.length) (h8 : xs.length ≤ 8) {k : Int} (h0 : 0 ≤ k) (h1 : k < zs.length) (hn : NoErr (legK zs) k) (hk : legK zs k ≠ 0) : legsR xs ys = (0, legK zs k) := by
  subst hzs
  exact legsR_bad0 h h8 h0 h1 hn hk
theorem legsR_ok {xs ys zs : List (Int × Int)} (hzs : zs = xs ++ ys) (h : xs.length = ys.length) (h8 : xs.length ≤ 8) (hn : NoErr (legK zs) zs.length) : legsR xs ys = (signZ (legU xs ys zs.length), 0) := by
  subst hzs
  exact legsR_ok0 h h8 hn
theorem legU_b {xs ys zs : List (Int × Int)} (hzs : zs = xs ++ ys) (k : Nat) (h : NoErr (legK zs) k) : -100000000000000000 * (k : Int) ≤ legU xs ys k ∧ legU xs ys k ≤ 100000000000000000 * (k : Int) := by
  subst hzs
  exact legU_b0 k h
theorem zs_len {xs ys zs : List (Int × Int)} (hzs : zs = xs ++ ys) : zs.length = xs.length + ys.length := by
  subst hzs
  exact List.length_append
theorem zs_ok {w0 : World} {va vb : Value} {xs ys zs : List (Int × Int)} (ha : LgH w0 va xs) (hb : LgH w0 vb ys) (hzs : zs = xs ++ ys) {k : Int} (hk0 : 0 ≤ k) (hk1 : k < zs.length) : -9223372036854775808 ≤ (getp zs k).1 ∧ (getp zs k).1 ≤ 9223372036854775807 ∧ -9223372036854775808 ≤ (getp zs k).2 ∧ (getp zs k).2 ≤ 9223372036854775807 := by
  have hm := getp_mem hk0 hk1
  subst hzs
  rcases List.mem_append.1 hm with hm | hm
  · exact ha.i _ hm
  · exact hb.i _ hm
theorem legU_succ {xs ys zs : List (Int × Int)} (hzs : zs = xs ++ ys) {k : Int} (hk0 : 0 ≤ k) : legU xs ys (k + 1).toNat = if k < xs.length then legU xs ys k.toNat + hund (getp zs k).1 (getp zs k).2 else legU xs ys k.toNat - hund (getp zs k).1 (getp zs k).2 := by
  subst hzs
  rw [show (k + 1).toNat = k.toNat + 1 by omega]
  show (if k.toNat < xs.length then legU xs ys k.toNat + hundK (xs ++ ys) k.toNat else legU xs ys k.toNat - hundK (xs ++ ys) k.toNat) = _
  unfold hundK
  rw [Int.toNat_of_nonneg hk0]
  by_cases h : k < xs.length
  · rw [if_pos h, if_pos (by omega)]
  · rw [if_neg h, if_neg (by omega)]
noncomputable def loR : Code := (Try.f31.body).getD .skip
set_option maxRecDepth 100000 in
theorem fr_loR (f : Nat → Value) : frame 48 f = ⟨#[f 0, f 1, f 2, f 3, f 4, f 5, f 6, f 7, f 8, f 9, f 10, f 11, f 12, f 13, f 14, f 15, f 16, f 17, f 18, f 19, f 20, f 21, f 22, f 23, f 24, f 25, f 26, f 27, f 28, f 29, f 30, f 31, f 32, f 33, f 34, f 35, f 36, f 37, f 38, f 39, f 40, f 41, f 42, f 43, f 44, f 45, f 46, f 47], []⟩ := by rfl
set_option maxRecDepth 100000 in
set_option maxHeartbeats 1000000 in
theorem lo0 (w0 : World) (va vb : Value) (xs ys : List (Int × Int)) (ha : LgH w0 va xs) (hb : LgH w0 vb ys) (zs : List (Int × Int)) (hzs : Hid (zs = xs ++ ys)) : T3 Try.prog (fun a w => (IsW w0 w) ∧ Fr 48 [(0, va), (1, vb)] a) (sel [0] loR) (fun a w => (IsW w0 w) ∧ Fr 48 [(0, va), (1, vb)] a) No 9 (fun a w => Fr 48 [(4, .int .i64 (legsR xs ys).1), (5, .int .i64 (legsR xs ys).2)] a ∧ Below w0.heap.size w0 w) := by
  refine T3.leaf ?_
  rintro Q JS JX JT K hS hK hX hE hT hR a w ⟨hW, ⟨fr, rfl, q0, q1, _⟩⟩
  have HW := Lib.hid hW
  have hxn := ha.n
  have hyn := hb.n
  obtain ⟨p1, c1, hv1⟩ := ha.r.shape
  subst hv1
  obtain ⟨p2, c2, hv2⟩ := hb.r.shape
  subst hv2
  clear hW
  rw [fr_loR, show fr 0 = _ from q0, show fr 1 = _ from q1]
  clear q0 q1
  conv => arg 2; whnf
  go_wp2_with fail
  refine Met.intro (hS _ _ ?_)
  exact ⟨HW.out, Fr.of _ rfl ⟨rfl, rfl, trivial⟩⟩

set_option maxRecDepth 100000 in
set_option maxHeartbeats 1000000 in
theorem lo1 (w0 : World) (va vb : Value) (xs ys : List (Int × Int)) (ha : LgH w0 va xs) (hb : LgH w0 vb ys) (zs : List (Int × Int)) (hzs : Hid (zs = xs ++ ys)) : T3 Try.prog (fun a w => (IsW w0 w) ∧ Fr 48 [(0, va), (1, vb)] a) (sel [1, 0, 0] loR) (fun a w => ∃ q, Fr 48 ((14, .bool q) :: [(0, va), (1, vb)]) a ∧ ((q = ((xs.length : Int) != (ys.length : Int))) ∧ IsW w0 w)) No 9 (fun a w => Fr 48 [(4, .int .i64 (legsR xs ys).1), (5, .int .i64 (legsR xs ys).2)] a ∧ Below w0.heap.size w0 w) := by
  refine T3.leaf ?_
  rintro Q JS JX JT K hS hK hX hE hT hR a w ⟨hW, ⟨fr, rfl, q0, q1, _⟩⟩
  have HW := Lib.hid hW
  have hxn := ha.n
  have hyn := hb.n
  obtain ⟨p1, c1, hv1⟩ := ha.r.shape
  subst hv1
  obtain ⟨p2, c2, hv2⟩ := hb.r.shape
  subst hv2
  clear hW
  generalize hq : ((xs.length : Int) != (ys.length : Int)) = q at *
  rw [fr_loR, show fr 0 = _ from q0, show fr 1 = _ from q1]
  clear q0 q1
  conv => arg 2; whnf
  go_wp2_with fail
  refine Met.intro (hS _ _ ?_)
  exact ⟨_, Fr.of _ rfl ⟨rfl, rfl, rfl, trivial⟩, rfl, HW.out⟩

set_option maxRecDepth 100000 in
set_option maxHeartbeats 1000000 in
theorem lo2 (w0 : World) (va vb : Value) (xs ys : List (Int × Int)) (ha : LgH w0 va xs) (hb : LgH w0 vb ys) (zs : List (Int × Int)) (hzs : Hid (zs = xs ++ ys)) : T3 Try.prog (fun a w => (IsW w0 w) ∧ Fr 48 [(0, va), (1, vb)] a) (sel [1, 0, 1, 2, 0] loR) (fun a w => (IsW w0 w) ∧ Fr 48 [(4, .int .i64 0), (5, .int .i64 3)] a) No 9 (fun a w => Fr 48 [(4, .int .i64 (legsR xs ys).1), (5, .int .i64 (legsR xs ys).2)] a ∧ Below w0.heap.size w0 w) := by
  refine T3.leaf ?_
  rintro Q JS JX JT K hS hK hX hE hT hR a w ⟨hW, ⟨fr, rfl, q0, q1, _⟩⟩
  have HW := Lib.hid hW
  have hxn := ha.n
  have hyn := hb.n
  obtain ⟨p1, c1, hv1⟩ := ha.r.shape
  subst hv1
  obtain ⟨p2, c2, hv2⟩ := hb.r.shape
  subst hv2
  clear hW
  rw [fr_loR, show fr 0 = _ from q0, show fr 1 = _ from q1]
  clear q0 q1
  conv => arg 2; whnf
  go_wp2_with fail
  refine Met.intro (hS _ _ ?_)
  exact ⟨HW.out, Fr.of _ rfl ⟨rfl, rfl, trivial⟩⟩

set_option maxRecDepth 100000 in
set_option maxHeartbeats 1000000 in
theorem lo3 (w0 : World) (va vb : Value) (xs ys : List (Int × Int)) (ha : LgH w0 va xs) (hb : LgH w0 vb ys) (zs : List (Int × Int)) (hzs : Hid (zs = xs ++ ys)) : T3 Try.prog (fun a w => (IsW w0 w) ∧ Fr 48 [(0, va), (1, vb)] a) (sel [1, 1, 0, 0] loR) (fun a w => ∃ q, Fr 48 ((17, .bool q) :: [(0, va), (1, vb)]) a ∧ ((q = decide ((8 : Int) < (xs.length : Int))) ∧ IsW w0 w)) No 9 (fun a w => Fr 48 [(4, .int .i64 (legsR xs ys).1), (5, .int .i64 (legsR xs ys).2)] a ∧ Below w0.heap.size w0 w) := by
  refine T3.leaf ?_
  rintro Q JS JX JT K hS hK hX hE hT hR a w ⟨hW, ⟨fr, rfl, q0, q1, _⟩⟩
  have HW := Lib.hid hW
  have hxn := ha.n
  have hyn := hb.n
  obtain ⟨p1, c1, hv1⟩ := ha.r.shape
  subst hv1
  obtain ⟨p2, c2, hv2⟩ := hb.r.shape
  subst hv2
  clear hW
  rw [fr_loR, show fr 0 = _ from q0, show fr 1 = _ from q1]
  clear q0 q1
  conv => arg 2; whnf
  go_wp2_with fail
  refine Met.intro (hS _ _ ?_)
  exact ⟨_, Fr.of _ rfl ⟨rfl, rfl, rfl, trivial⟩, rfl, HW.out⟩

set_option maxRecDepth 100000 in
set_option maxHeartbeats 1000000 in
theorem lo4 (w0 : World) (va vb : Value) (xs ys : List (Int × Int)) (ha : LgH w0 va xs) (hb : LgH w0 vb ys) (zs : List (Int × Int)) (hzs : Hid (zs = xs ++ ys)) : T3 Try.prog (fun a w => (IsW w0 w) ∧ Fr 48 [(0, va), (1, vb)] a) (sel [1, 1, 0, 1, 2, 0] loR) (fun a w => (IsW w0 w) ∧ Fr 48 [(4, .int .i64 0), (5, .int .i64 2)] a) No 9 (fun a w => Fr 48 [(4, .int .i64 (legsR xs ys).1), (5, .int .i64 (legsR xs ys).2)] a ∧ Below w0.heap.size w0 w) := by
  refine T3.leaf ?_
  rintro Q JS JX JT K hS hK hX hE hT hR a w ⟨hW, ⟨fr, rfl, q0, q1, _⟩⟩
  have HW := Lib.hid hW
  have hxn := ha.n
  have hyn := hb.n
  obtain ⟨p1, c1, hv1⟩ := ha.r.shape
  subst hv1
  obtain ⟨p2, c2, hv2⟩ := hb.r.shape
  subst hv2
  clear hW
  rw [fr_loR, show fr 0 = _ from q0, show fr 1 = _ from q1]
  clear q0 q1
  conv => arg 2; whnf
  go_wp2_with fail
  refine Met.intro (hS _ _ ?_)
  exact ⟨HW.out, Fr.of _ rfl ⟨rfl, rfl, trivial⟩⟩

set_option maxRecDepth 100000 in
set_option maxHeartbeats 1000000 in
theorem lo5 (w0 : World) (va vb : Value) (xs ys : List (Int × Int)) (ha : LgH w0 va xs) (hb : LgH w0 vb ys) (zs : List (Int × Int)) (hzs : Hid (zs = xs ++ ys)) : T3 Try.prog (fun a w => (IsW w0 w) ∧ Fr 48 [(0, va), (1, vb)] a) (sel [1, 1, 1, 0] loR) (fun a w => (IsW w0 w) ∧ Fr 48 [(0, va), (1, vb), (6, .int .i64 0)] a) No 9 (fun a w => Fr 48 [(4, .int .i64 (legsR xs ys).1), (5, .int .i64 (legsR xs ys).2)] a ∧ Below w0.heap.size w0 w) := by
  refine T3.leaf ?_
  rintro Q JS JX JT K hS hK hX hE hT hR a w ⟨hW, ⟨fr, rfl, q0, q1, _⟩⟩
  have HW := Lib.hid hW
  have hxn := ha.n
  have hyn := hb.n
  obtain ⟨p1, c1, hv1⟩ := ha.r.shape
  subst hv1
  obtain ⟨p2, c2, hv2⟩ := hb.r.shape
  subst hv2
  clear hW
  rw [fr_loR, show fr 0 = _ from q0, show fr 1 = _ from q1]
  clear q0 q1
  conv => arg 2; whnf
  go_wp2_with fail
  refine Met.intro (hS _ _ ?_)
  exact ⟨HW.out, Fr.of _ rfl ⟨rfl, rfl, rfl, trivial⟩⟩

set_option maxRecDepth 100000 in
set_option maxHeartbeats 1000000 in
theorem lo6 (w0 : World) (va vb : Value) (xs ys : List (Int × Int)) (ha : LgH w0 va xs) (hb : LgH w0 vb ys) (zs : List (Int × Int)) (hzs : Hid (zs = xs ++ ys)) : T3 Try.prog (fun a w => (IsW w0 w) ∧ Fr 48 [(0, va), (1, vb), (6, .int .i64 0)] a) (sel [1, 1, 1, 1, 0, 0] loR) (fun a w => ∃ (v21 : Value), (LoJ w0 v21 zs w) ∧ Fr 48 [(0, va), (6, .int .i64 (legU xs ys (0 : Int).toNat)), (21, v21), (22, .int .i64 zs.length), (23, .int .i64 0)] a) No 9 (fun a w => Fr 48 [(4, .int .i64 (legsR xs ys).1), (5, .int .i64 (legsR xs ys).2)] a ∧ Below w0.heap.size w0 w) := by
  refine T3.leaf ?_
  rintro Q JS JX JT K hS hK hX hE hT hR a w ⟨hW, ⟨fr, rfl, q0, q1, q6, _⟩⟩
  have hxn := ha.n
  have hyn := hb.n
  obtain ⟨p1, c1, hv1⟩ := ha.r.shape
  subst hv1
  obtain ⟨p2, c2, hv2⟩ := hb.r.shape
  subst hv2
  obtain rfl : w = w0 := hW
  have HN := Lib.hid (fun e => concat_any _ _ _ (cc_new ha hb e))
  have HE := Lib.hid ((ccJ_two (.slice p1 xs.length c1) (.slice p2 ys.length c2) xs ys).trans hzs.out.symm)
  have HB := Lib.hid (fun e => (Below.refl w.heap.size w).alloc (Nat.le_refl _) (.cells #[(.slice p1 xs.length c1 : Value), .slice p2 ys.length c2] e))
  clear ha hb
  rw [fr_loR, show fr 0 = _ from q0, show fr 1 = _ from q1, show fr 6 = _ from q6]
  clear q0 q1 q6
  conv => arg 2; whnf
  go_wp2_with fail
  refine (HN.out _).mono ?_
  rintro e w1 ⟨v6, rfl, hC⟩
  have hb1 := (HB.out _).trans (hC.bel.mono (HB.out _).size)
  have ho := (Row.of_owns hC.own).mono (Nat.zero_le _)
  rw [HE.out] at ho
  have HR := Lib.hid (show LoJ _ _ _ w1 from ⟨hb1, ho⟩)
  obtain ⟨p6, c6, hv6⟩ := ho.shape
  subst hv6
  clear ho hb1 hC
  go_wp2_with fail
  refine Met.intro (hS _ _ ?_)
  exact ⟨_, HR.out, Fr.of _ rfl ⟨rfl, rfl, rfl, rfl, rfl, trivial⟩⟩

theorem lo7 {xs ys zs : List (Int × Int)} {w0 w : World} {v21 va : Value} {a : Act} (q : LoJ w0 v21 zs w ∧ Fr 48 [(0, va), (6, .int .i64 (legU xs ys (0 : Int).toNat)), (21, v21), (22, .int .i64 zs.length), (23, .int .i64 0)] a) : (0 ≤ (0 : Int) ∧ (0 : Int) ≤ zs.length) ∧ (NoErr (legK zs) 0) ∧ (LoJ w0 v21 zs w) ∧ Fr 48 [(0, va), (6, .int .i64 (legU xs ys (0 : Int).toNat)), (21, v21), (22, .int .i64 zs.length), (23, .int .i64 0)] a := ⟨⟨by omega, by omega⟩, NoErr.zero _, q.1, q.2.sub (by simp)⟩
set_option maxRecDepth 100000 in
set_option maxHeartbeats 1000000 in
theorem lo8 (w0 : World) (va vb : Value) (xs ys : List (Int × Int)) (ha : LgH w0 va xs) (hb : LgH w0 vb ys) (zs : List (Int × Int)) (hzs : Hid (zs = xs ++ ys)) (v21 : Value) (hl : Hid (xs.length = ys.length)) (h8 : xs.length ≤ 8) (k : Int) : T3 Try.prog (fun a w => ((0 ≤ k ∧ k < zs.length) ∧ NoErr (legK zs) k) ∧ (LoJ w0 v21 zs w) ∧ Fr 48 [(0, va), (6, .int .i64 (legU xs ys (k : Int).toNat)), (21, v21), (22, .int .i64 zs.length), (23, .int .i64 k)] a) (sel [1, 1, 1, 1, 0, 1, 4, 4, 1, 1, 0, 4, 0] loR) (fun a w => ∃ (g8 : Nat), ((0 ≤ k ∧ k < zs.length) ∧ NoErr (legK zs) k) ∧ (LoJ w0 v21 zs w ∧ F2 w g8 (getp zs k).1 (getp zs k).2) ∧ Fr 48 [(0, va), (6, .int .i64 (legU xs ys (k : Int).toNat)), (7, .int .i64 k), (8, .pointer (some ⟨g8, 0, none⟩)), (21, v21), (22, .int .i64 zs.length), (23, .int .i64 k)] a) No 9 (fun a w => Fr 48 [(4, .int .i64 (legsR xs ys).1), (5, .int .i64 (legsR xs ys).2)] a ∧ Below w0.heap.size w0 w) := by
  refine T3.leaf ?_
  rintro Q JS JX JT K hS hK hX hE hT hR a w ⟨hpre, hW, ⟨fr, rfl, q0, q6, q21, q22, q23, _⟩⟩
  have hpp := Lib.hid hpre
  obtain ⟨⟨hk0, hk1⟩, _⟩ := hpre
  have HW := Lib.hid hW
  have hn : zs.length ≤ 2000000 := by
    have := ha.n
    have := hb.n
    have := zs_len hzs.out
    omega
  clear hb hl
  obtain ⟨_, hcs⟩ := row_pairs hW.r
  rcases hcs with ⟨rfl, h0⟩ | ⟨bz, off, cap, rfl, _, hbz, hnc, hcm, hcell⟩
  · omega
  obtain ⟨t0, t1⟩ := hcell k hk0 hk1
  have HN := Lib.hid (fun w' : World => F2.new w' (getp zs k).1 (getp zs k).2)
  have HA := Lib.hid (fun o => (Below.refl w.heap.size w).alloc (Nat.le_refl _) o)
  clear hcell hW
  obtain ⟨p1, c1, hv1⟩ := ha.r.shape
  subst hv1
  clear ha
  generalize (getp zs k).1 = num at *
  generalize (getp zs k).2 = den at *
  generalize legU xs ys k.toNat = uu at *
  rw [fr_loR, show fr 0 = _ from q0, show fr 6 = _ from q6, show fr 21 = _ from q21, show fr 22 = _ from q22, show fr 23 = _ from q23]
  clear q0 q6 q21 q22 q23
  conv => arg 2; whnf
  go_wp2_with fail
  refine Met.intro (hS _ _ ?_)
  exact ⟨_, hpp.out, ⟨HW.out.below (HA.out _), HN.out w _⟩, Fr.of _ rfl ⟨rfl, rfl, rfl, rfl, rfl, rfl, rfl, trivial⟩⟩

set_option maxRecDepth 100000 in
set_option maxHeartbeats 1000000 in
theorem lo9 (w0 : World) (va vb : Value) (xs ys : List (Int × Int)) (ha : LgH w0 va xs) (hb : LgH w0 vb ys) (zs : List (Int × Int)) (hzs : Hid (zs = xs ++ ys)) (v21 : Value) (hl : Hid (xs.length = ys.length)) (h8 : xs.length ≤ 8) (k : Int) (g8 : Nat) : T3 Try.prog (fun a w => ((0 ≤ k ∧ k < zs.length) ∧ NoErr (legK zs) k) ∧ (LoJ w0 v21 zs w ∧ F2 w g8 (getp zs k).1 (getp zs k).2) ∧ Fr 48 [(0, va), (6, .int .i64 (legU xs ys (k : Int).toNat)), (7, .int .i64 k), (8, .pointer (some ⟨g8, 0, none⟩)), (21, v21), (22, .int .i64 zs.length), (23, .int .i64 k)] a) (sel [1, 1, 1, 1, 0, 1, 4, 4, 1, 1, 0, 4, 1, 0, 0] loR) (fun a w => ((0 ≤ k ∧ k < zs.length) ∧ NoErr (legK zs) k) ∧ (LoJ w0 v21 zs w ∧ F2 w g8 (getp zs k).1 (getp zs k).2) ∧ Fr 48 [(0, va), (6, .int .i64 (legU xs ys (k : Int).toNat)), (7, .int .i64 k), (8, .pointer (some ⟨g8, 0, none⟩)), (9, .int .i64 (legK zs k)), (21, v21), (22, .int .i64 zs.length), (23, .int .i64 k)] a) No 9 (fun a w => Fr 48 [(4, .int .i64 (legsR xs ys).1), (5, .int .i64 (legsR xs ys).2)] a ∧ Below w0.heap.size w0 w) := by
  refine T3.leaf ?_
  rintro Q JS JX JT K hS hK hX hE hT hR a w ⟨hpre, hW, ⟨fr, rfl, q0, q6, q7, q8, q21, q22, q23, _⟩⟩
  have hpp := Lib.hid hpre
  obtain ⟨⟨hk0, hk1⟩, _⟩ := hpre
  have hi := zs_ok ha hb hzs.out hk0 hk1
  have HW := Lib.hid hW
  have HC := Lib.hid (pointsFault_ref (getp zs k).1 (getp zs k).2 1000000 w hi.1 hi.2.1 hi.2.2.1 hi.2.2.2 (by decide) (by decide))
  have t0 := hW.2.c0
  have t1 := hW.2.c1
  obtain ⟨p1, c1, hv1⟩ := ha.r.shape
  subst hv1
  obtain ⟨p6, c6, hv6⟩ := hW.1.r.shape
  subst hv6
  clear hW hi ha hb hl
  have HL := Lib.hid (show amountE (getp zs k).1 (getp zs k).2 1000000 = legK zs k from rfl)
  generalize (getp zs k).1 = num at *
  generalize (getp zs k).2 = den at *
  generalize legU xs ys k.toNat = uu at *
  generalize legK zs k = e0 at *
  rw [fr_loR, show fr 0 = _ from q0, show fr 6 = _ from q6, show fr 7 = _ from q7, show fr 8 = _ from q8, show fr 21 = _ from q21, show fr 22 = _ from q22, show fr 23 = _ from q23]
  clear q0 q6 q7 q8 q21 q22 q23
  conv => arg 2; whnf
  go_wp2_with fail
  refine HC.out.mono ?_
  rintro e w1 ⟨rfl, hb⟩
  have HR := Lib.hid (show LoJ w0 _ zs w1 ∧ F2 w1 g8 num den from ⟨HW.out.1.below hb, HW.out.2.below hb⟩)
  clear hb
  rw [HL.out]
  go_wp2_with fail
  refine Met.intro (hS _ _ ?_)
  exact ⟨hpp.out, HR.out, Fr.of _ rfl ⟨rfl, rfl, rfl, rfl, rfl, rfl, rfl, rfl, trivial⟩⟩

set_option maxRecDepth 100000 in
set_option maxHeartbeats 1000000 in
theorem lo10 (w0 : World) (va vb : Value) (xs ys : List (Int × Int)) (ha : LgH w0 va xs) (hb : LgH w0 vb ys) (zs : List (Int × Int)) (hzs : Hid (zs = xs ++ ys)) (v21 : Value) (hl : Hid (xs.length = ys.length)) (h8 : xs.length ≤ 8) (k : Int) (g8 : Nat) : T3 Try.prog (fun a w => ((0 ≤ k ∧ k < zs.length) ∧ NoErr (legK zs) k) ∧ (LoJ w0 v21 zs w ∧ F2 w g8 (getp zs k).1 (getp zs k).2) ∧ Fr 48 [(0, va), (6, .int .i64 (legU xs ys (k : Int).toNat)), (7, .int .i64 k), (8, .pointer (some ⟨g8, 0, none⟩)), (9, .int .i64 (legK zs k)), (21, v21), (22, .int .i64 zs.length), (23, .int .i64 k)] a) (sel [1, 1, 1, 1, 0, 1, 4, 4, 1, 1, 0, 4, 1, 0, 1, 0] loR) (fun a w => ∃ q, Fr 48 ((31, .bool q) :: [(0, va), (6, .int .i64 (legU xs ys (k : Int).toNat)), (7, .int .i64 k), (8, .pointer (some ⟨g8, 0, none⟩)), (9, .int .i64 (legK zs k)), (21, v21), (22, .int .i64 zs.length), (23, .int .i64 k)]) a ∧ ((((0 ≤ k ∧ k < zs.length) ∧ NoErr (legK zs) k) ∧ q = (legK zs k != 0)) ∧ LoJ w0 v21 zs w ∧ F2 w g8 (getp zs k).1 (getp zs k).2)) No 9 (fun a w => Fr 48 [(4, .int .i64 (legsR xs ys).1), (5, .int .i64 (legsR xs ys).2)] a ∧ Below w0.heap.size w0 w) := by
  refine T3.leaf ?_
  rintro Q JS JX JT K hS hK hX hE hT hR a w ⟨hpre, hW, ⟨fr, rfl, q0, q6, q7, q8, q9, q21, q22, q23, _⟩⟩
  have HW := Lib.hid hW
  obtain ⟨p1, c1, hv1⟩ := ha.r.shape
  subst hv1
  obtain ⟨p6, c6, hv6⟩ := hW.1.r.shape
  subst hv6
  clear hW ha hb hl
  generalize (getp zs k).1 = num at *
  generalize (getp zs k).2 = den at *
  generalize legU xs ys k.toNat = uu at *
  generalize hpk : legK zs k = e0 at *
  clear hpk
  rw [fr_loR, show fr 0 = _ from q0, show fr 6 = _ from q6, show fr 7 = _ from q7, show fr 8 = _ from q8, show fr 9 = _ from q9, show fr 21 = _ from q21, show fr 22 = _ from q22, show fr 23 = _ from q23]
  clear q0 q6 q7 q8 q9 q21 q22 q23
  conv => arg 2; whnf
  go_wp2_with fail
  refine Met.intro (hS _ _ ?_)
  exact ⟨_, Fr.of _ rfl ⟨rfl, rfl, rfl, rfl, rfl, rfl, rfl, rfl, rfl, trivial⟩, ⟨hpre, rfl⟩, HW.out⟩

set_option maxRecDepth 100000 in
set_option maxHeartbeats 1000000 in
theorem lo11 (w0 : World) (va vb : Value) (xs ys : List (Int × Int)) (ha : LgH w0 va xs) (hb : LgH w0 vb ys) (zs : List (Int × Int)) (hzs : Hid (zs = xs ++ ys)) (v21 : Value) (hl : Hid (xs.length = ys.length)) (h8 : xs.length ≤ 8) (k : Int) (g8 : Nat) : T3 Try.prog (fun a w => (LoJ w0 v21 zs w ∧ F2 w g8 (getp zs k).1 (getp zs k).2) ∧ Fr 48 [(0, va), (6, .int .i64 (legU xs ys (k : Int).toNat)), (7, .int .i64 k), (8, .pointer (some ⟨g8, 0, none⟩)), (9, .int .i64 (legK zs k)), (21, v21), (22, .int .i64 zs.length), (23, .int .i64 k)] a) (sel [1, 1, 1, 1, 0, 1, 4, 4, 1, 1, 0, 4, 1, 0, 1, 1, 2, 0] loR) (fun a w => (Below w0.heap.size w0 w) ∧ Fr 48 [(4, .int .i64 0), (5, .int .i64 (legK zs k))] a) No 9 (fun a w => Fr 48 [(4, .int .i64 (legsR xs ys).1), (5, .int .i64 (legsR xs ys).2)] a ∧ Below w0.heap.size w0 w) := by
  refine T3.leaf ?_
  rintro Q JS JX JT K hS hK hX hE hT hR a w ⟨hW, ⟨fr, rfl, q0, q6, q7, q8, q9, q21, q22, q23, _⟩⟩
  have HW := Lib.hid hW
  obtain ⟨p1, c1, hv1⟩ := ha.r.shape
  subst hv1
  obtain ⟨p6, c6, hv6⟩ := hW.1.r.shape
  subst hv6
  clear hW ha hb hl
  generalize (getp zs k).1 = num at *
  generalize (getp zs k).2 = den at *
  generalize legU xs ys k.toNat = uu at *
  generalize legK zs k = e0 at *
  rw [fr_loR, show fr 0 = _ from q0, show fr 6 = _ from q6, show fr 7 = _ from q7, show fr 8 = _ from q8, show fr 9 = _ from q9, show fr 21 = _ from q21, show fr 22 = _ from q22, show fr 23 = _ from q23]
  clear q0 q6 q7 q8 q9 q21 q22 q23
  conv => arg 2; whnf
  go_wp2_with fail
  refine Met.intro (hS _ _ ?_)
  exact ⟨HW.out.1.bel, Fr.of _ rfl ⟨rfl, rfl, trivial⟩⟩

set_option maxRecDepth 100000 in
set_option maxHeartbeats 1000000 in
theorem lo12 (w0 : World) (va vb : Value) (xs ys : List (Int × Int)) (ha : LgH w0 va xs) (hb : LgH w0 vb ys) (zs : List (Int × Int)) (hzs : Hid (zs = xs ++ ys)) (v21 : Value) (hl : Hid (xs.length = ys.length)) (h8 : xs.length ≤ 8) (k : Int) (g8 : Nat) : T3 Try.prog (fun a w => ((0 ≤ k ∧ k < zs.length) ∧ NoErr (legK zs) (k + 1)) ∧ (LoJ w0 v21 zs w ∧ F2 w g8 (getp zs k).1 (getp zs k).2) ∧ Fr 48 [(0, va), (6, .int .i64 (legU xs ys (k : Int).toNat)), (7, .int .i64 k), (8, .pointer (some ⟨g8, 0, none⟩)), (21, v21), (22, .int .i64 zs.length), (23, .int .i64 k)] a) (sel [1, 1, 1, 1, 0, 1, 4, 4, 1, 1, 0, 4, 1, 1, 0] loR) (fun a w => ∃ q, Fr 48 ((36, .bool q) :: [(0, va), (6, .int .i64 (legU xs ys (k : Int).toNat)), (7, .int .i64 k), (8, .pointer (some ⟨g8, 0, none⟩)), (21, v21), (22, .int .i64 zs.length), (23, .int .i64 k)]) a ∧ ((((0 ≤ k ∧ k < zs.length) ∧ NoErr (legK zs) (k + 1)) ∧ q = decide (k < (xs.length : Int))) ∧ LoJ w0 v21 zs w ∧ F2 w g8 (getp zs k).1 (getp zs k).2)) No 9 (fun a w => Fr 48 [(4, .int .i64 (legsR xs ys).1), (5, .int .i64 (legsR xs ys).2)] a ∧ Below w0.heap.size w0 w) := by
  refine T3.leaf ?_
  rintro Q JS JX JT K hS hK hX hE hT hR a w ⟨hpre, hW, ⟨fr, rfl, q0, q6, q7, q8, q21, q22, q23, _⟩⟩
  have hxn := ha.n
  have hyn := hb.n
  have hpp := hpre
  obtain ⟨⟨hk0, hk1⟩, _⟩ := hpp
  have HW := Lib.hid hW
  obtain ⟨p1, c1, hv1⟩ := ha.r.shape
  subst hv1
  obtain ⟨p6, c6, hv6⟩ := hW.1.r.shape
  subst hv6
  clear hW ha hb hl
  generalize (getp zs k).1 = num at *
  generalize (getp zs k).2 = den at *
  generalize legU xs ys k.toNat = uu at *
  rw [fr_loR, show fr 0 = _ from q0, show fr 6 = _ from q6, show fr 7 = _ from q7, show fr 8 = _ from q8, show fr 21 = _ from q21, show fr 22 = _ from q22, show fr 23 = _ from q23]
  clear q0 q6 q7 q8 q21 q22 q23
  conv => arg 2; whnf
  go_wp2_with fail
  refine Met.intro (hS _ _ ?_)
  exact ⟨_, Fr.of _ rfl ⟨rfl, rfl, rfl, rfl, rfl, rfl, rfl, rfl, trivial⟩, ⟨hpre, rfl⟩, HW.out⟩

set_option maxRecDepth 100000 in
set_option maxHeartbeats 1000000 in
theorem lo13 (w0 : World) (va vb : Value) (xs ys : List (Int × Int)) (ha : LgH w0 va xs) (hb : LgH w0 vb ys) (zs : List (Int × Int)) (hzs : Hid (zs = xs ++ ys)) (v21 : Value) (hl : Hid (xs.length = ys.length)) (h8 : xs.length ≤ 8) (k : Int) (g8 : Nat) (hc : k < xs.length) : T3 Try.prog (fun a w => ((0 ≤ k ∧ k < zs.length) ∧ NoErr (legK zs) (k + 1)) ∧ (LoJ w0 v21 zs w ∧ F2 w g8 (getp zs k).1 (getp zs k).2) ∧ Fr 48 [(0, va), (6, .int .i64 (legU xs ys (k : Int).toNat)), (7, .int .i64 k), (8, .pointer (some ⟨g8, 0, none⟩)), (21, v21), (22, .int .i64 zs.length), (23, .int .i64 k)] a) (sel [1, 1, 1, 1, 0, 1, 4, 4, 1, 1, 0, 4, 1, 1, 1, 2] loR) (fun a w => ((0 ≤ k ∧ k < zs.length) ∧ NoErr (legK zs) (k + 1)) ∧ (LoJ w0 v21 zs w) ∧ Fr 48 [(0, va), (6, .int .i64 (legU xs ys ((k + 1) : Int).toNat)), (21, v21), (22, .int .i64 zs.length), (23, .int .i64 k)] a) No 9 (fun a w => Fr 48 [(4, .int .i64 (legsR xs ys).1), (5, .int .i64 (legsR xs ys).2)] a ∧ Below w0.heap.size w0 w) := by
  refine T3.leaf ?_
  rintro Q JS JX JT K hS hK hX hE hT hR a w ⟨hpre, hW, ⟨fr, rfl, q0, q6, q7, q8, q21, q22, q23, _⟩⟩
  have hpp := Lib.hid hpre
  obtain ⟨⟨hk0, hk1⟩, hne⟩ := hpre
  have hnk : NoErr (legK zs) k := fun j h0 h1 => hne j h0 (by omega)
  have hzk : legK zs k = 0 := hne k hk0 (by omega)
  have a1 := amount_ok hzk
  have b1 := hund_b hzk
  have bs := legU_b hzs.out k.toNat (by rw [Int.toNat_of_nonneg hk0]; exact hnk)
  have hk16 : k < 16 := by
    have := hl.out
    have := zs_len hzs.out
    omega
  have hs1 : -2000000000000000000 ≤ legU xs ys k.toNat ∧ legU xs ys k.toNat ≤ 2000000000000000000 := by omega
  have HC := Lib.hid (fun w => hundredths_ref (getp zs k).1 (getp zs k).2 w a1.2.2.1 a1.2.2.2 a1.1 (by omega))
  have HS := Lib.hid (show legU xs ys (k + 1).toNat = legU xs ys k.toNat + hund (getp zs k).1 (getp zs k).2 by rw [legU_succ hzs.out hk0, if_pos hc])
  have HW := Lib.hid hW
  have t0 := hW.2.c0
  have t1 := hW.2.c1
  obtain ⟨p1, c1, hv1⟩ := ha.r.shape
  subst hv1
  obtain ⟨p6, c6, hv6⟩ := hW.1.r.shape
  subst hv6
  clear hW ha hb hl hc a1 bs hnk hzk hne
  generalize legU xs ys (k + 1).toNat = uu1 at *
  generalize hund (getp zs k).1 (getp zs k).2 = hx at *
  generalize (getp zs k).1 = num at *
  generalize (getp zs k).2 = den at *
  generalize legU xs ys k.toNat = uu at *
  have e1 : IntKind.i64.wrap (uu + hx) = uu + hx := IntWalk.i64_in _ (by omega)
  rw [fr_loR, show fr 0 = _ from q0, show fr 6 = _ from q6, show fr 7 = _ from q7, show fr 8 = _ from q8, show fr 21 = _ from q21, show fr 22 = _ from q22, show fr 23 = _ from q23]
  clear q0 q6 q7 q8 q21 q22 q23
  conv => arg 2; whnf
  go_wp2_with fail
  refine (HC.out w).mono ?_
  rintro e w1 ⟨rfl, hb⟩
  have HR := Lib.hid (HW.out.1.below hb)
  clear hb
  go_wp2_with fail
  refine Met.intro (hS _ _ ?_)
  refine ⟨hpp.out, HR.out, ?_⟩
  rw [HS.out]
  exact Fr.of _ rfl ⟨rfl, rfl, rfl, rfl, rfl, trivial⟩

set_option maxRecDepth 100000 in
set_option maxHeartbeats 1000000 in
theorem lo14 (w0 : World) (va vb : Value) (xs ys : List (Int × Int)) (ha : LgH w0 va xs) (hb : LgH w0 vb ys) (zs : List (Int × Int)) (hzs : Hid (zs = xs ++ ys)) (v21 : Value) (hl : Hid (xs.length = ys.length)) (h8 : xs.length ≤ 8) (k : Int) (g8 : Nat) (hc : ¬ k < xs.length) : T3 Try.prog (fun a w => ((0 ≤ k ∧ k < zs.length) ∧ NoErr (legK zs) (k + 1)) ∧ (LoJ w0 v21 zs w ∧ F2 w g8 (getp zs k).1 (getp zs k).2) ∧ Fr 48 [(0, va), (6, .int .i64 (legU xs ys (k : Int).toNat)), (7, .int .i64 k), (8, .pointer (some ⟨g8, 0, none⟩)), (21, v21), (22, .int .i64 zs.length), (23, .int .i64 k)] a) (sel [1, 1, 1, 1, 0, 1, 4, 4, 1, 1, 0, 4, 1, 1, 1, 3] loR) (fun a w => ((0 ≤ k ∧ k < zs.length) ∧ NoErr (legK zs) (k + 1)) ∧ (LoJ w0 v21 zs w) ∧ Fr 48 [(0, va), (6, .int .i64 (legU xs ys ((k + 1) : Int).toNat)), (21, v21), (22, .int .i64 zs.length), (23, .int .i64 k)] a) No 9 (fun a w => Fr 48 [(4, .int .i64 (legsR xs ys).1), (5, .int .i64 (legsR xs ys).2)] a ∧ Below w0.heap.size w0 w) := by
  refine T3.leaf ?_
  rintro Q JS JX JT K hS hK hX hE hT hR a w ⟨hpre, hW, ⟨fr, rfl, q0, q6, q7, q8, q21, q22, q23, _⟩⟩
  have hpp := Lib.hid hpre
  obtain ⟨⟨hk0, hk1⟩, hne⟩ := hpre
  have hnk : NoErr (legK zs) k := fun j h0 h1 => hne j h0 (by omega)
  have hzk : legK zs k = 0 := hne k hk0 (by omega)
  have a1 := amount_ok hzk
  have b1 := hund_b hzk
  have bs := legU_b hzs.out k.toNat (by rw [Int.toNat_of_nonneg hk0]; exact hnk)
  have hk16 : k < 16 := by
    have := hl.out
    have := zs_len hzs.out
    omega
  have hs1 : -2000000000000000000 ≤ legU xs ys k.toNat ∧ legU xs ys k.toNat ≤ 2000000000000000000 := by omega
  have HC := Lib.hid (fun w => hundredths_ref (getp zs k).1 (getp zs k).2 w a1.2.2.1 a1.2.2.2 a1.1 (by omega))
  have HS := Lib.hid (show legU xs ys (k + 1).toNat = legU xs ys k.toNat - hund (getp zs k).1 (getp zs k).2 by rw [legU_succ hzs.out hk0, if_neg hc])
  have HW := Lib.hid hW
  have t0 := hW.2.c0
  have t1 := hW.2.c1
  obtain ⟨p1, c1, hv1⟩ := ha.r.shape
  subst hv1
  obtain ⟨p6, c6, hv6⟩ := hW.1.r.shape
  subst hv6
  clear hW ha hb hl hc a1 bs hnk hzk hne
  generalize legU xs ys (k + 1).toNat = uu1 at *
  generalize hund (getp zs k).1 (getp zs k).2 = hx at *
  generalize (getp zs k).1 = num at *
  generalize (getp zs k).2 = den at *
  generalize legU xs ys k.toNat = uu at *
  have e1 : IntKind.i64.wrap (uu - hx) = uu - hx := IntWalk.i64_in _ (by omega)
  rw [fr_loR, show fr 0 = _ from q0, show fr 6 = _ from q6, show fr 7 = _ from q7, show fr 8 = _ from q8, show fr 21 = _ from q21, show fr 22 = _ from q22, show fr 23 = _ from q23]
  clear q0 q6 q7 q8 q21 q22 q23
  conv => arg 2; whnf
  go_wp2_with fail
  refine (HC.out w).mono ?_
  rintro e w1 ⟨rfl, hb⟩
  have HR := Lib.hid (HW.out.1.below hb)
  clear hb
  go_wp2_with fail
  refine Met.intro (hS _ _ ?_)
  refine ⟨hpp.out, HR.out, ?_⟩
  rw [HS.out]
  exact Fr.of _ rfl ⟨rfl, rfl, rfl, rfl, rfl, trivial⟩

set_option maxRecDepth 100000 in
set_option maxHeartbeats 1000000 in
theorem lob (w0 : World) (va vb : Value) (xs ys : List (Int × Int)) (ha : LgH w0 va xs) (hb : LgH w0 vb ys) (zs : List (Int × Int)) (hzs : Hid (zs = xs ++ ys)) (v21 : Value) (hl : Hid (xs.length = ys.length)) (h8 : xs.length ≤ 8) (k : Int) : T3 Try.prog (fun a w => ((0 ≤ k ∧ k < zs.length) ∧ NoErr (legK zs) k) ∧ (LoJ w0 v21 zs w) ∧ Fr 48 [(0, va), (6, .int .i64 (legU xs ys (k : Int).toNat)), (21, v21), (22, .int .i64 zs.length), (23, .int .i64 k)] a) (sel [1, 1, 1, 1, 0, 1, 4, 4, 1, 1, 0] loR) (fun a w => ((0 ≤ k ∧ k < zs.length) ∧ NoErr (legK zs) (k + 1)) ∧ (LoJ w0 v21 zs w) ∧ Fr 48 [(0, va), (6, .int .i64 (legU xs ys ((k + 1) : Int).toNat)), (21, v21), (22, .int .i64 zs.length), (23, .int .i64 k)] a) No 100 (fun a w => Fr 48 [(4, .int .i64 (legsR xs ys).1), (5, .int .i64 (legsR xs ys).2)] a ∧ Below w0.heap.size w0 w) := by
  refine T3.block (id' := 1) (c := (sel [1, 1, 1, 1, 0, 1, 4, 4, 1, 1, 0, 4] loR)) (by decide) ?_
  refine T3.seq (s := (sel [1, 1, 1, 1, 0, 1, 4, 4, 1, 1, 0, 4, 0] loR)) (c := (sel [1, 1, 1, 1, 0, 1, 4, 4, 1, 1, 0, 4, 1] loR)) ((lo8 w0 va vb xs ys ha hb zs hzs v21 hl h8 k).noX) (T3.ex fun g8 => ?_)
  refine T3.seq (s := (sel [1, 1, 1, 1, 0, 1, 4, 4, 1, 1, 0, 4, 1, 0] loR)) (c := (sel [1, 1, 1, 1, 0, 1, 4, 4, 1, 1, 0, 4, 1, 1] loR)) (S := (fun a w => ((0 ≤ k ∧ k < zs.length) ∧ NoErr (legK zs) (k + 1)) ∧ (LoJ w0 v21 zs w ∧ F2 w g8 (getp zs k).1 (getp zs k).2) ∧ Fr 48 [(0, va), (6, .int .i64 (legU xs ys (k : Int).toNat)), (7, .int .i64 k), (8, .pointer (some ⟨g8, 0, none⟩)), (21, v21), (22, .int .i64 zs.length), (23, .int .i64 k)] a)) ?_ ?_
  · refine T3.seq (s := (sel [1, 1, 1, 1, 0, 1, 4, 4, 1, 1, 0, 4, 1, 0, 0] loR)) (c := (sel [1, 1, 1, 1, 0, 1, 4, 4, 1, 1, 0, 4, 1, 0, 1] loR)) ((lo9 w0 va vb xs ys ha hb zs hzs v21 hl h8 k g8).noX) ?_
    refine T3.test (s := (sel [1, 1, 1, 1, 0, 1, 4, 4, 1, 1, 0, 4, 1, 0, 1, 0] loR)) (x := (sel [1, 1, 1, 1, 0, 1, 4, 4, 1, 1, 0, 4, 1, 0, 1, 1, 2] loR)) (y := .skip) (C := fun q => (((0 ≤ k ∧ k < zs.length) ∧ NoErr (legK zs) k) ∧ q = (legK zs k != 0))) (W := fun w => LoJ w0 v21 zs w ∧ F2 w g8 (getp zs k).1 (getp zs k).2) (by decide) ((lo10 w0 va vb xs ys ha hb zs hzs v21 hl h8 k g8).noX) ?_ (T3.skip ?_)
    · refine T3.seq (s := (sel [1, 1, 1, 1, 0, 1, 4, 4, 1, 1, 0, 4, 1, 0, 1, 1, 2, 0] loR)) (c := .ret) (t3_seqx (p := ((0 ≤ k ∧ k < zs.length) ∧ NoErr (legK zs) k) ∧ legK zs k ≠ 0) ((lo11 w0 va vb xs ys ha hb zs hzs v21 hl h8 k g8).noX) ?_) (T3.ret ?_)
      · rintro a w ⟨hF, ⟨hk, hq⟩, hW⟩
        exact ⟨⟨hk, by have := hq.symm; simpa using this⟩, hW, hF.tail⟩
      · rintro a w ⟨⟨hk, hne⟩, hW, hF⟩
        have e := legsR_bad hzs.out hl.out h8 hk.1.1 hk.1.2 hk.2 hne
        exact ⟨by rw [e]; exact hF, hW⟩
    · rintro a w ⟨⟨hk, hq⟩, hW, hF⟩
      exact ⟨⟨hk.1, hk.2.step (by have := hq.symm; simpa using this)⟩, hW, hF.sub (by simp)⟩
  refine T3.test (s := (sel [1, 1, 1, 1, 0, 1, 4, 4, 1, 1, 0, 4, 1, 1, 0] loR)) (x := (sel [1, 1, 1, 1, 0, 1, 4, 4, 1, 1, 0, 4, 1, 1, 1, 2] loR)) (y := (sel [1, 1, 1, 1, 0, 1, 4, 4, 1, 1, 0, 4, 1, 1, 1, 3] loR)) (C := fun q => (((0 ≤ k ∧ k < zs.length) ∧ NoErr (legK zs) (k + 1)) ∧ q = decide (k < (xs.length : Int)))) (W := fun w => LoJ w0 v21 zs w ∧ F2 w g8 (getp zs k).1 (getp zs k).2) (by decide) ((lo12 w0 va vb xs ys ha hb zs hzs v21 hl h8 k g8).noX) ?_ ?_
  · refine T3.pre (R := fun a w => (k < xs.length) ∧ ((0 ≤ k ∧ k < zs.length) ∧ NoErr (legK zs) (k + 1)) ∧ (LoJ w0 v21 zs w ∧ F2 w g8 (getp zs k).1 (getp zs k).2) ∧ Fr 48 [(0, va), (6, .int .i64 (legU xs ys (k : Int).toNat)), (7, .int .i64 k), (8, .pointer (some ⟨g8, 0, none⟩)), (21, v21), (22, .int .i64 zs.length), (23, .int .i64 k)] a) (T3.pure fun hc => (lo13 w0 va vb xs ys ha hb zs hzs v21 hl h8 k g8 hc).noX) (fun a w q => ⟨of_decide_eq_true q.2.1.2.symm, q.2.1.1, q.2.2, q.1.tail⟩)
  · refine T3.pre (R := fun a w => (¬ k < xs.length) ∧ ((0 ≤ k ∧ k < zs.length) ∧ NoErr (legK zs) (k + 1)) ∧ (LoJ w0 v21 zs w ∧ F2 w g8 (getp zs k).1 (getp zs k).2) ∧ Fr 48 [(0, va), (6, .int .i64 (legU xs ys (k : Int).toNat)), (7, .int .i64 k), (8, .pointer (some ⟨g8, 0, none⟩)), (21, v21), (22, .int .i64 zs.length), (23, .int .i64 k)] a) (T3.pure fun hc => (lo14 w0 va vb xs ys ha hb zs hzs v21 hl h8 k g8 hc).noX) (fun a w q => ⟨of_decide_eq_false q.1.2.symm, q.1.1, q.2.1, q.2.2⟩)

def looI (w0 : World) (va vb : Value) (xs ys : List (Int × Int)) (ha : LgH w0 va xs) (hb : LgH w0 vb ys) (zs : List (Int × Int)) (hzs : Hid (zs = xs ++ ys)) (v21 : Value) (hl : Hid (xs.length = ys.length)) (h8 : xs.length ≤ 8) (k : Int) (a : Act) (w : World) : Prop := (0 ≤ k ∧ k ≤ zs.length) ∧ (NoErr (legK zs) k) ∧ (LoJ w0 v21 zs w) ∧ Fr 48 [(0, va), (6, .int .i64 (legU xs ys (k : Int).toNat)), (21, v21), (22, .int .i64 zs.length), (23, .int .i64 k)] a
set_option maxRecDepth 100000 in
set_option maxHeartbeats 1000000 in
theorem loot (w0 : World) (va vb : Value) (xs ys : List (Int × Int)) (ha : LgH w0 va xs) (hb : LgH w0 vb ys) (zs : List (Int × Int)) (hzs : Hid (zs = xs ++ ys)) (v21 : Value) (hl : Hid (xs.length = ys.length)) (h8 : xs.length ≤ 8) (k : Int) : T3 Try.prog (fun a w => looI w0 va vb xs ys ha hb zs hzs v21 hl h8 k a w) (sel [1, 1, 1, 1, 0, 1, 4, 4, 0] loR) (fun a w => ∃ q, Fr 48 ((24, .bool q) :: [(23, .int .i64 k)]) a ∧ ((q = true ↔ k < zs.length) ∧ looI w0 va vb xs ys ha hb zs hzs v21 hl h8 k a w)) No 9 (fun a w => Fr 48 [(4, .int .i64 (legsR xs ys).1), (5, .int .i64 (legsR xs ys).2)] a ∧ Below w0.heap.size w0 w) := by
  refine T3.leaf ?_
  rintro Q JS JX JT K hS hK hX hE hT hR a w ⟨hk, hpre, hW, ⟨fr, rfl, q0, q6, q21, q22, q23, _⟩⟩
  have hLn : zs.length ≤ 2000000 := by
    have := ha.n
    have := hb.n
    have := zs_len hzs.out
    omega
  rw [fr_loR, show fr 0 = _ from q0, show fr 6 = _ from q6, show fr 21 = _ from q21, show fr 22 = _ from q22, show fr 23 = _ from q23]
  clear q0 q6 q21 q22 q23
  conv => arg 2; whnf
  by_cases hlt : k < zs.length
  · go_wp2_with fail
    refine Met.intro (hS _ _ ?_)
    exact ⟨true, Fr.of _ rfl ⟨rfl, rfl, trivial⟩, ⟨fun _ => hlt, fun _ => rfl⟩, hk, hpre, hW, Fr.of _ rfl ⟨rfl, rfl, rfl, rfl, rfl, trivial⟩⟩
  · have hpb : decide (k < (zs.length : Int)) = false := by simp; omega
    go_wp2_with fail
    refine Met.intro (hS _ _ ?_)
    exact ⟨false, Fr.of _ rfl ⟨rfl, rfl, trivial⟩, ⟨(fun h => by cases h), fun h => absurd h (by omega)⟩, hk, hpre, hW, Fr.of _ rfl ⟨rfl, rfl, rfl, rfl, rfl, trivial⟩⟩

set_option maxRecDepth 100000 in
set_option maxHeartbeats 1000000 in
theorem loon (w0 : World) (va vb : Value) (xs ys : List (Int × Int)) (ha : LgH w0 va xs) (hb : LgH w0 vb ys) (zs : List (Int × Int)) (hzs : Hid (zs = xs ++ ys)) (v21 : Value) (hl : Hid (xs.length = ys.length)) (h8 : xs.length ≤ 8) (k : Int) : T3 Try.prog (fun a w => (0 ≤ k ∧ k < zs.length) ∧ (NoErr (legK zs) (k + 1)) ∧ (LoJ w0 v21 zs w) ∧ Fr 48 [(0, va), (6, .int .i64 (legU xs ys ((k + 1) : Int).toNat)), (21, v21), (22, .int .i64 zs.length), (23, .int .i64 k)] a) (sel [1, 1, 1, 1, 0, 1, 4, 4, 1, 1, 1] loR) (fun a w => looI w0 va vb xs ys ha hb zs hzs v21 hl h8 (k + 1) a w) No 9 (fun a w => Fr 48 [(4, .int .i64 (legsR xs ys).1), (5, .int .i64 (legsR xs ys).2)] a ∧ Below w0.heap.size w0 w) := by
  refine T3.leaf ?_
  rintro Q JS JX JT K hS hK hX hE hT hR a w ⟨hk, hpre, hW, ⟨fr, rfl, q0, q6, q21, q22, q23, _⟩⟩
  obtain ⟨hk0, hk1⟩ := hk
  have hLn : zs.length ≤ 2000000 := by
    have := ha.n
    have := hb.n
    have := zs_len hzs.out
    omega
  rw [fr_loR, show fr 0 = _ from q0, show fr 6 = _ from q6, show fr 21 = _ from q21, show fr 22 = _ from q22, show fr 23 = _ from q23]
  clear q0 q6 q21 q22 q23
  conv => arg 2; whnf
  go_wp2_with fail
  refine Met.intro (hS _ _ ?_)
  exact ⟨⟨by omega, by omega⟩, hpre, hW, Fr.of _ rfl ⟨rfl, rfl, rfl, rfl, rfl, trivial⟩⟩

set_option maxRecDepth 100000 in
set_option maxHeartbeats 1000000 in
theorem looloop (w0 : World) (va vb : Value) (xs ys : List (Int × Int)) (ha : LgH w0 va xs) (hb : LgH w0 vb ys) (zs : List (Int × Int)) (hzs : Hid (zs = xs ++ ys)) (v21 : Value) (hl : Hid (xs.length = ys.length)) (h8 : xs.length ≤ 8) : T3 Try.prog (fun a w => looI w0 va vb xs ys ha hb zs hzs v21 hl h8 0 a w) (sel [1, 1, 1, 1, 0, 1] loR) (fun a w => (NoErr (legK zs) zs.length) ∧ (Below w0.heap.size w0 w) ∧ Fr 48 [(6, .int .i64 (legU xs ys zs.length))] a) No 9 (fun a w => Fr 48 [(4, .int .i64 (legsR xs ys).1), (5, .int .i64 (legsR xs ys).2)] a ∧ Below w0.heap.size w0 w) := by
  refine T3.loop (c := (sel [1, 1, 1, 1, 0, 1, 4, 4] loR)) (fun ng_ a w => ∃ k : Int, (ng_ : Int) = zs.length - k ∧ looI w0 va vb xs ys ha hb zs hzs v21 hl h8 k a w) (fun a w h => ⟨(zs.length : Int).toNat, 0, by have := h.1.2; omega, h⟩) (fun ng_ => T3.ex fun k => T3.pure fun hng_ => ?_)
  refine T3.seq (s := (sel [1, 1, 1, 1, 0, 1, 4, 4, 0] loR)) (c := (sel [1, 1, 1, 1, 0, 1, 4, 4, 1] loR)) ((loot w0 va vb xs ys ha hb zs hzs v21 hl h8 k).noX) ?_
  refine T3.seq (s := (sel [1, 1, 1, 1, 0, 1, 4, 4, 1, 0] loR)) (c := (sel [1, 1, 1, 1, 0, 1, 4, 4, 1, 1] loR)) (S := fun a w => (0 ≤ k ∧ k < zs.length) ∧ (NoErr (legK zs) k) ∧ (LoJ w0 v21 zs w) ∧ Fr 48 [(0, va), (6, .int .i64 (legU xs ys (k : Int).toNat)), (21, v21), (22, .int .i64 zs.length), (23, .int .i64 k)] a) ?_ (T3.seq (s := (sel [1, 1, 1, 1, 0, 1, 4, 4, 1, 1, 0] loR)) (c := (sel [1, 1, 1, 1, 0, 1, 4, 4, 1, 1, 1] loR)) (S := fun a w => (0 ≤ k ∧ k < zs.length) ∧ (NoErr (legK zs) (k + 1)) ∧ (LoJ w0 v21 zs w) ∧ Fr 48 [(0, va), (6, .int .i64 (legU xs ys ((k + 1) : Int).toNat)), (21, v21), (22, .int .i64 zs.length), (23, .int .i64 k)] a) (T3.noX (T3.mono (R' := fun a w => (0 ≤ k ∧ k < zs.length) ∧ (NoErr (legK zs) k) ∧ (LoJ w0 v21 zs w) ∧ Fr 48 [(0, va), (6, .int .i64 (legU xs ys (k : Int).toNat)), (21, v21), (22, .int .i64 zs.length), (23, .int .i64 k)] a) (S' := fun a w => (0 ≤ k ∧ k < zs.length) ∧ (NoErr (legK zs) (k + 1)) ∧ (LoJ w0 v21 zs w) ∧ Fr 48 [(0, va), (6, .int .i64 (legU xs ys ((k + 1) : Int).toNat)), (21, v21), (22, .int .i64 zs.length), (23, .int .i64 k)] a) (lob w0 va vb xs ys ha hb zs hzs v21 hl h8 k) (fun a w ⟨hk, hp, hI⟩ => ⟨⟨hk, hp⟩, hI⟩) (fun a w ⟨⟨hk, hp⟩, hI⟩ => ⟨hk, hp, hI⟩) (fun _ _ q => q) (fun _ _ q => q))) ?_)
  · refine T3.cond (o := .tmp 24) (x := .skip) (y := .exit 0) (fun a w => k < zs.length ∧ looI w0 va vb xs ys ha hb zs hzs v21 hl h8 k a w) (fun a w => ¬ k < zs.length ∧ looI w0 va vb xs ys ha hb zs hzs v21 hl h8 k a w) ?_ (T3.skip ?_) (T3.exit ?_)
    · rintro a w ⟨q, hF, hq, hI⟩
      have he := hF.eval 24 (by decide) (v := .bool q) (by simp)
      cases q
      · exact .inr ⟨he, (fun h => by have := hq.2 h; cases this), hI⟩
      · exact .inl ⟨he, hq.1 rfl, hI⟩
    · rintro a w ⟨hlt, hk, hI⟩
      exact ⟨⟨hk.1, hlt⟩, hI⟩
    · rintro a w ⟨hlt, hk, hI⟩
      obtain rfl : k = zs.length := by omega
      obtain ⟨hn, hW, hF⟩ := hI
      rw [show ((zs.length : Nat) : Int).toNat = zs.length by omega] at hF
      exact ⟨hn, hW.bel, hF.sub (by simp)⟩
  · intro a w hx
    have hk := hx.1
    exact (((loon w0 va vb xs ys ha hb zs hzs v21 hl h8 k).noX).post (fun a w q => ⟨ng_ - 1, by omega, k + 1, by omega, q⟩)) a w hx
set_option maxRecDepth 100000 in
set_option maxHeartbeats 1000000 in
theorem lo16 (w0 : World) (va vb : Value) (xs ys : List (Int × Int)) (ha : LgH w0 va xs) (hb : LgH w0 vb ys) (zs : List (Int × Int)) (hzs : Hid (zs = xs ++ ys)) : T3 Try.prog (fun a w => (Below w0.heap.size w0 w) ∧ Fr 48 [(6, .int .i64 (legU xs ys zs.length))] a) (sel [1, 1, 1, 1, 1, 0] loR) (fun a w => (Below w0.heap.size w0 w) ∧ Fr 48 [(4, .int .i64 (signZ (legU xs ys zs.length))), (5, .int .i64 0)] a) No 9 (fun a w => Fr 48 [(4, .int .i64 (legsR xs ys).1), (5, .int .i64 (legsR xs ys).2)] a ∧ Below w0.heap.size w0 w) := by
  refine T3.leaf ?_
  rintro Q JS JX JT K hS hK hX hE hT hR a w ⟨hW, ⟨fr, rfl, q6, _⟩⟩
  have HW := Lib.hid hW
  clear hW
  generalize legU xs ys zs.length = uu at *
  have HS := Lib.hid (sign_ref uu w)
  rw [fr_loR, show fr 6 = _ from q6]
  clear q6
  conv => arg 2; whnf
  go_wp2_with fail
  refine HS.out.mono ?_
  rintro e w1 ⟨rfl, rfl⟩
  generalize signZ uu = ss at *
  go_wp2_with fail
  refine Met.intro (hS _ _ ?_)
  exact ⟨HW.out, Fr.of _ rfl ⟨rfl, rfl, trivial⟩⟩

set_option maxRecDepth 100000 in
set_option maxHeartbeats 1000000 in
theorem lo_all (w0 : World) (va vb : Value) (xs ys : List (Int × Int)) (ha : LgH w0 va xs) (hb : LgH w0 vb ys) (zs : List (Int × Int)) (hzs : Hid (zs = xs ++ ys)) : T3 Try.prog (fun a w => (IsW w0 w) ∧ Fr 48 [(0, va), (1, vb)] a) loR No No 9 (fun a w => Fr 48 [(4, .int .i64 (legsR xs ys).1), (5, .int .i64 (legsR xs ys).2)] a ∧ Below w0.heap.size w0 w) := by
  refine T3.seq (s := (sel [0] loR)) (c := (sel [1] loR)) (lo0 w0 va vb xs ys ha hb zs hzs) ?_
  refine T3.seq (s := (sel [1, 0] loR)) (c := (sel [1, 1] loR)) (S := fun a w => (xs.length = ys.length) ∧ (IsW w0 w) ∧ Fr 48 [(0, va), (1, vb)] a) ?_ (T3.pure fun hl => ?_)
  · refine T3.test (s := (sel [1, 0, 0] loR)) (x := (sel [1, 0, 1, 2] loR)) (y := .skip) (C := fun q => (q = ((xs.length : Int) != (ys.length : Int)))) (W := fun w => IsW w0 w) (by decide) (lo1 w0 va vb xs ys ha hb zs hzs) ?_ (T3.skip ?_)
    · refine T3.seq (s := (sel [1, 0, 1, 2, 0] loR)) (c := .ret) (t3_seqx (p := xs.length ≠ ys.length) (lo2 w0 va vb xs ys ha hb zs hzs) ?_) (T3.ret ?_)
      · rintro a w ⟨hF, hq, hW⟩
        exact ⟨by have := hq.symm; simp at this; omega, hW, hF.tail⟩
      · rintro a w ⟨hp, rfl, hF⟩
        exact ⟨by rw [legsR_len hp]; exact hF, Below.refl _ _⟩
    · rintro a w ⟨hq, hW, hF⟩
      exact ⟨by have := hq.symm; simp at this; omega, hW, hF⟩
  refine T3.seq (s := (sel [1, 1, 0] loR)) (c := (sel [1, 1, 1] loR)) (S := fun a w => (xs.length ≤ 8) ∧ (IsW w0 w) ∧ Fr 48 [(0, va), (1, vb)] a) ?_ (T3.pure fun h8 => ?_)
  · refine T3.test (s := (sel [1, 1, 0, 0] loR)) (x := (sel [1, 1, 0, 1, 2] loR)) (y := .skip) (C := fun q => (q = decide ((8 : Int) < (xs.length : Int)))) (W := fun w => IsW w0 w) (by decide) (lo3 w0 va vb xs ys ha hb zs hzs) ?_ (T3.skip ?_)
    · refine T3.seq (s := (sel [1, 1, 0, 1, 2, 0] loR)) (c := .ret) (t3_seqx (p := 8 < xs.length) (lo4 w0 va vb xs ys ha hb zs hzs) ?_) (T3.ret ?_)
      · rintro a w ⟨hF, hq, hW⟩
        exact ⟨by have := of_decide_eq_true hq.symm; omega, hW, hF.tail⟩
      · rintro a w ⟨hp, rfl, hF⟩
        exact ⟨by rw [legsR_big hl hp]; exact hF, Below.refl _ _⟩
    · rintro a w ⟨hq, hW, hF⟩
      exact ⟨by have := of_decide_eq_false hq.symm; omega, hW, hF⟩
  refine T3.seq (s := (sel [1, 1, 1, 0] loR)) (c := (sel [1, 1, 1, 1] loR)) (lo5 w0 va vb xs ys ha hb zs hzs) ?_
  refine T3.seq (s := (sel [1, 1, 1, 1, 0] loR)) (c := (sel [1, 1, 1, 1, 1] loR)) (T3.seq (s := (sel [1, 1, 1, 1, 0, 0] loR)) (c := (sel [1, 1, 1, 1, 0, 1] loR)) (lo6 w0 va vb xs ys ha hb zs hzs) (T3.ex fun v21 => T3.pre (looloop w0 va vb xs ys ha hb zs hzs v21 (Lib.hid hl) h8) (fun a w q => lo7 q))) (T3.pure fun hn => ?_)
  refine T3.seq (s := (sel [1, 1, 1, 1, 1, 0] loR)) (c := .ret) (lo16 w0 va vb xs ys ha hb zs hzs) (T3.ret ?_)
  rintro a w ⟨hW, hF⟩
  exact ⟨by rw [legsR_ok hzs.out hl h8 hn]; exact hF, hW⟩

set_option maxRecDepth 100000 in
set_option maxHeartbeats 1000000 in
theorem legsof_ref (w0 : World) (va vb : Value) (xs ys : List (Int × Int)) (ha : LgH w0 va xs) (hb : LgH w0 vb ys) : Calls Try.prog 31 #[va, vb] w0 fun e w' => e = .returned (.tuple #[.int .i64 (legsR xs ys).1, .int .i64 (legsR xs ys).2]) ∧ Below w0.heap.size w0 w' := by
  have hall := lo_all w0 va vb xs ys ha hb _ (Lib.hid rfl)
  go_enter Try.func31, Try.ntmps31
  refine T3.done (s := loR) hall ⟨rfl, Fr.of _ rfl ⟨rfl, rfl, trivial⟩⟩ ?_
  rintro a w ⟨⟨fr, rfl, q4, q5, _⟩, hw⟩
  rw [fr_loR, show fr 4 = _ from q4, show fr 5 = _ from q5]
  go_ret2
  exact ⟨rfl, hw⟩
end Go.Proofs.Ytkdimgghljklmaa
/-
  An odd number: what Stream.Odd hands out. Conditions: low and high from 1 to 20.
-/
set_option linter.unusedVariables false
namespace Go.Proofs.Ytkdimgghljklmaa
open Go.RowKit Go.Bw

theorem lit_row (w : World) (e : TypeId) (xs : List Int) (n : Nat) (hn : n ≤ 1099511627776) (hl : xs.length = n) (cs : Array Value) (hcs : cs.toList = xs.map (.int .i64)) :
    Row (w.alloc (.cells cs e)) 0 1 (.slice (some ⟨w.heap.size, 0, none⟩) n n) n (xs.map (.int .i64)) := by
  have h := owns_lit w 0 e cs n hn (by rw [← Array.length_toList, hcs]; simp [hl]) (Nat.zero_le _)
  rw [hcs] at h
  exact Row.of_owns h

set_option maxHeartbeats 1000000 in
theorem odd_any (B b : Nat) (low high : Int) (w : World) (hl : 0 ≤ low) (hl' : low ≤ high) (hh : high ≤ 100) (hS : Str B w b) (hb : b ≤ 1000000) :
    Calls Try.prog 10 #[.pointer (some ⟨B, 0, none⟩), .int .i64 low, .int .i64 high] w fun e w' => ∃ r : Int, e = .returned (.int .i64 r) ∧ Str B w' (b + 2) ∧ w.grownBy w' (some B) := by
  go_enter Try.func10, Try.ntmps10
  go_wp2_with first
    | (go_at_call 9; refine (flip_any B b _ _ (by omega) hS (by omega)).mono ?_; rintro e w1 ⟨q, rfl, hS1, hg1⟩; cases q)
    | (go_at_call 8; refine (range_any B (b + 1) _ _ _ (by omega) (by omega) (by omega) (by omega) hS1 (by omega)).mono ?_; rintro e w2 ⟨r, rfl, _, _, _, hS2, hg2⟩)
    | (go_at_call 6; go_must (refine (pick_any B (b + 1) _ 6 [low - 1, high + 1, low, high, -1099511627776, 1099511627776] _ (lit_row _ _ _ 6 (by decide) rfl _ rfl) (by decide) (by decide) (by intro k hk; have := hS1.lt; simp [Value.ownBlock] at hk; omega) (hS1.alloc _) (by omega)).mono ?_); rintro e w2 ⟨r, rfl, _, hS2, hg2⟩)
  all_goals go_ret
  · exact ⟨r, rfl, hS2, grown_trans hg1 hg2⟩
  · exact ⟨r, rfl, hS2, grown_trans hg1 (grown_trans (World.grownBy_alloc _ _ _) hg2)⟩
end Go.Proofs.Ytkdimgghljklmaa
/-
  What a law owns while it draws: a stream's block and one row of ints. No condition on a program.
-/
set_option linter.unusedVariables false
namespace Go.Bw
open Go.RowKit

/-- Block n₀ is a stream drawn at most b times; v is a row of the ints l, owned from block B on; the blocks below n₀ are as in w0. -/
structure GenS (n₀ B : Nat) (w0 w : World) (b : Nat) (v : Value) (l : List Int) : Prop where
  bel : Below n₀ w0 w
  str : Str n₀ w b
  hB : n₀ < B
  hs : B ≤ w.heap.size
  row : w.ownsRow B 3 1 v l.length (l.map (.int .i64))

theorem GenS.nil {n₀ b : Nat} {w0 w : World} (h : Below n₀ w0 w) (hS : Str n₀ w b) : GenS n₀ w.heap.size w0 w b (.slice none 0 0) [] :=
  ⟨h, hS, hS.lt, Nat.le_refl _, ⟨rfl, .inl ⟨rfl, rfl⟩⟩⟩

theorem GenS.again {n₀ B b : Nat} {w0 w : World} {v : Value} {l : List Int} (h : GenS n₀ B w0 w b v l) : GenS n₀ w.heap.size w0 w b (.slice none 0 0) [] := GenS.nil h.bel h.str

theorem GenS.drawn {n₀ B b b' : Nat} {w0 w w' : World} {v : Value} {l : List Int} (h : GenS n₀ B w0 w b v l) (hS : Str n₀ w' b') (g : w.grownBy w' (some n₀)) : GenS n₀ B w0 w' b' v l :=
  ⟨below_str h.bel g (Nat.le_refl _) (Nat.le_of_lt h.str.lt), hS, h.hB, Nat.le_trans h.hs g.size, owns_str h.row g h.hB⟩

theorem GenS.mono {n₀ B b b' : Nat} {w0 w : World} {v : Value} {l : List Int} (h : GenS n₀ B w0 w b v l) (hb : b ≤ b') : GenS n₀ B w0 w b' v l :=
  ⟨h.bel, h.str.mono hb, h.hB, h.hs, h.row⟩

theorem GenS.alloc {n₀ B b : Nat} {w0 w : World} {v : Value} {l : List Int} (h : GenS n₀ B w0 w b v l) (o : Obj) : GenS n₀ B w0 (w.alloc o) b v l :=
  ⟨h.bel.alloc (Nat.le_of_lt h.str.lt) o, h.str.alloc o, h.hB, by have := h.hs; simp; omega, h.row.alloc o⟩

theorem GenS.drew {n₀ B b : Nat} {w0 w : World} {v : Value} {l : List Int} (h : GenS n₀ B w0 w b v l) : GenS n₀ B w0 w.drew b v l :=
  ⟨⟨h.bel.os, h.bel.tape, h.bel.output, h.bel.size, h.bel.block⟩, h.str, h.hB, h.hs, h.row⟩

theorem GenS.drewN {n₀ B b : Nat} {w0 w : World} {v : Value} {l : List Int} (h : GenS n₀ B w0 w b v l) (k : Nat) : GenS n₀ B w0 (w.drewN k) b v l :=
  ⟨⟨h.bel.os, h.bel.tape, h.bel.output, h.bel.size, h.bel.block⟩, h.str, h.hB, h.hs, h.row⟩

/-- A call that leaves all the blocks there are alone. -/
theorem GenS.below {n₀ B b : Nat} {w0 w w' : World} {v : Value} {l : List Int} (h : GenS n₀ B w0 w b v l) (g : Below w.heap.size w w') : GenS n₀ B w0 w' b v l :=
  ⟨h.bel.trans (g.mono (Nat.le_of_lt h.str.lt)), h.str.below g, h.hB, Nat.le_trans h.hs g.size, owns_below h.row g (Nat.le_refl _)⟩

theorem GenS.app {n₀ B b : Nat} {w0 w w' : World} {v v' : Value} {l : List Int} {x : Int} (h : GenS n₀ B w0 w b v l) (ho : w'.ownsRow B 3 1 v' (l.length + 1) (l.map (.int .i64) ++ [.int .i64 x]))
    (g : w.grownBy w' v.ownBlock) : GenS n₀ B w0 w' b v' (l ++ [x]) :=
  ⟨below_grown h.bel h.row g (Nat.le_of_lt h.hB) (Nat.le_of_lt h.str.lt), h.str.app h.row g h.hB, h.hB, Nat.le_trans h.hs g.size, by simpa using ho⟩

theorem GenS.slice {n₀ B b : Nat} {w0 w : World} {v : Value} {l : List Int} (h : GenS n₀ B w0 w b v l) : ∃ a c, v = .slice a l.length c := by
  rcases h.row.2 with ⟨rfl, h0⟩ | ⟨g, cap, cur, rfl, _⟩
  · exact ⟨_, _, by rw [h0]⟩
  · exact ⟨_, _, rfl⟩

theorem GenS.blk {n₀ B b : Nat} {w0 w : World} {v : Value} {l : List Int} (h : GenS n₀ B w0 w b v l) (hl : 0 < l.length) : ∃ g c, v = .slice (some ⟨g, 0, none⟩) l.length c := by
  rcases h.row.2 with ⟨rfl, h0⟩ | ⟨g, cap, cur, rfl, _⟩
  · omega
  · exact ⟨_, _, rfl⟩

theorem GenS.cell {n₀ B b g c : Nat} {w0 w : World} {l : List Int} (h : GenS n₀ B w0 w b (.slice (some ⟨g, 0, none⟩) l.length c) l) (r : Int) (h0 : 0 ≤ r) (h1 : r < l.length) :
    w.cell? ⟨g, r.toNat, none⟩ = some (.int .i64 (geti l r)) ∧ w.frozen? ⟨g, r.toNat, none⟩ = false := by
  refine ⟨ints_of_owns h.row r h0 h1, ?_⟩
  rcases h.row.2 with ⟨h2, _⟩ | ⟨g', cap, cur, hv, _, hg, _⟩
  · cases h2
  · simp only [Value.slice.injEq, Option.some.injEq, Addr.mk.injEq] at hv
    obtain ⟨⟨rfl, _⟩, _, rfl⟩ := hv
    unfold World.frozen?
    rw [hg]
    simp

theorem GenS.set {n₀ B b g cap : Nat} {w0 w : World} {l : List Int} (h : GenS n₀ B w0 w b (.slice (some ⟨g, 0, none⟩) l.length cap) l) (i : Nat) (hi : i < l.length) (u : Int) :
    GenS n₀ B w0 (w.setCell ⟨g, i, none⟩ (.int .i64 u)) b (.slice (some ⟨g, 0, none⟩) (l.set i u).length cap) (l.set i u) := by
  have hg := (owns_sizes h.row).1
  have hB := h.hB
  have hgr := grown_setCell w g i (.int .i64 u)
  refine ⟨h.bel.grown hgr (Nat.le_of_lt h.str.lt) (fun k hk => by cases hk; omega), h.str.kept hgr (fun k hk => by cases hk; omega), hB, Nat.le_trans h.hs hgr.size, ?_⟩
  rw [List.length_set]
  exact owns_set h.row i hi u

/-- v is a row that is only read: its block lies between the stream's and block B. -/
structure Held (n₀ B : Nat) (w : World) (sz n : Nat) (v : Value) (cs : List Value) : Prop where
  row : Row w 0 sz v n cs
  lt : ∀ k, v.ownBlock = some k → n₀ < k ∧ k < B

theorem Held.grow {n₀ B sz n : Nat} {w w' : World} {v : Value} {cs : List Value} {row : Option Nat} (h : Held n₀ B w sz n v cs) (g : w.grownBy w' row) (hr : ∀ k, row = some k → k = n₀ ∨ B ≤ k) : Held n₀ B w' sz n v cs := by
  refine ⟨?_, h.lt⟩
  obtain ⟨⟨h1, h2⟩, hlt⟩ := h
  refine ⟨h1, ?_⟩
  rcases h2 with h2 | ⟨b, off, cap, rfl, hb, hl, hn, hc, hcell⟩
  · exact .inl h2
  · refine .inr ⟨b, off, cap, rfl, hb, Nat.lt_of_lt_of_le hl g.size, hn, hc, fun i u hu => ?_⟩
    rw [World.cell?_of_block (w := w) (g.block b hl (fun e => by have := hr b e.symm; have := hlt b rfl; omega))]
    exact hcell i u hu

theorem Held.str {n₀ B sz n : Nat} {w w' : World} {v : Value} {cs : List Value} (h : Held n₀ B w sz n v cs) (g : w.grownBy w' (some n₀)) : Held n₀ B w' sz n v cs :=
  h.grow g (fun k hk => by cases hk; exact .inl rfl)
theorem Held.alloc {n₀ B sz n : Nat} {w : World} {v : Value} {cs : List Value} (h : Held n₀ B w sz n v cs) (o : Obj) : Held n₀ B (w.alloc o) sz n v cs :=
  h.grow (World.grownBy_alloc w o none) (by simp)
theorem Held.drew {n₀ B sz n : Nat} {w : World} {v : Value} {cs : List Value} (h : Held n₀ B w sz n v cs) : Held n₀ B w.drew sz n v cs := ⟨h.row, h.lt⟩
theorem Held.drewN {n₀ B sz n : Nat} {w : World} {v : Value} {cs : List Value} (h : Held n₀ B w sz n v cs) (k : Nat) : Held n₀ B (w.drewN k) sz n v cs := ⟨h.row, h.lt⟩
theorem Held.app {n₀ B sz n e m : Nat} {w w' : World} {v u : Value} {cs xs : List Value} {z : Nat} (h : Held n₀ B w sz n v cs) (ho : w.ownsRow B e z u m xs) (g : w.grownBy w' u.ownBlock) : Held n₀ B w' sz n v cs :=
  h.grow g (fun k hk => .inr (ho.lt k hk).1)
theorem Held.mono {n₀ B B' sz n : Nat} {w : World} {v : Value} {cs : List Value} (h : Held n₀ B w sz n v cs) (hB : B ≤ B') : Held n₀ B' w sz n v cs :=
  ⟨h.row, fun k hk => by have := h.lt k hk; omega⟩

/-- What is owned may be held. -/
theorem Held.of_owns {n₀ B e sz n : Nat} {w : World} {v : Value} {cs : List Value} (h : w.ownsRow B e sz v n cs) (hB : n₀ < B) : Held n₀ w.heap.size w sz n v cs :=
  ⟨(Row.of_owns h).mono (Nat.zero_le _), fun k hk => by have := h.lt k hk; omega⟩

theorem GenS.held {n₀ B b : Nat} {w0 w : World} {v : Value} {l : List Int} (h : GenS n₀ B w0 w b v l) : Held n₀ w.heap.size w 1 l.length v (l.map (.int .i64)) := .of_owns h.row h.hB

theorem Held.slice {n₀ B sz n : Nat} {w : World} {v : Value} {cs : List Value} (h : Held n₀ B w sz n v cs) : ∃ a c, v = .slice a n c := by
  rcases h.row.2 with ⟨rfl, rfl⟩ | ⟨b, off, cap, rfl, _⟩
  · exact ⟨_, _, rfl⟩
  · exact ⟨_, _, rfl⟩
end Go.Bw
/-
  What the stream hands out of strings; the first of some errors. Conditions: the bounds that each theorem names.
-/
set_option linter.unusedVariables false
namespace Go.Bw
open Go.RowKit
theorem lit_rowS (w : World) (e : TypeId) (xs : List ByteArray) (n : Nat) (hn : n ≤ 1099511627776) (hl : xs.length = n) (cs : Array Value) (hcs : cs.toList = cellsOf encSt xs) :
    Row (w.alloc (.cells cs e)) 0 1 (.slice (some ⟨w.heap.size, 0, none⟩) n n) n (cellsOf encSt xs) := by
  have h := owns_lit w 0 e cs n hn (by rw [← Array.length_toList, hcs, cellsOf_length encSt 1 encSt_length]; omega) (Nat.zero_le _)
  rw [hcs] at h
  exact Row.of_owns h
/-- A short string. -/
def Sm (s : ByteArray) : Prop := s.size ≤ 100
instance (s : ByteArray) : Decidable (Sm s) := inferInstanceAs (Decidable (s.size ≤ 100))
theorem Sm.le {s : ByteArray} (h : Sm s) : s.size ≤ 9223372036854775807 := Nat.le_trans h (by decide)
/-- What a call of the stream leaves behind an allocation. -/
theorem Drawn.of_alloc {n₀ b : Nat} {w w' : World} {o : Obj} (h : Drawn n₀ (w.alloc o) w' b) : Drawn n₀ w w' b := ⟨h.str, grown_trans (World.grownBy_alloc w o _) h.gr⟩
end Go.Bw
namespace Go.Proofs.Ytkdimgghljklmaa
open Go.RowKit Go.Bw
theorem el_str : Elem Try.prog 26 9 (.string ByteArray.empty) 1 16 := ⟨by kernel_rfl, by kernel_rfl, by kernel_rfl, by decide, by decide⟩

set_option maxHeartbeats 400000 in
theorem some_any (B b : Nat) (v : Value) (n : Nat) (xs : List ByteArray) (w : World) (hx : Row w 0 1 v n (cellsOf encSt xs)) (hn0 : 0 < n) (hn : n ≤ 1099511627776) (hB : ∀ k, v.ownBlock = some k → k ≠ B) (hS : Str B w b) (hb : b ≤ 1099511627776) :
    Calls Try.prog 7 #[.pointer (some ⟨B, 0, none⟩), v] w fun e w' => ∃ r : ByteArray, e = .returned (.string r) ∧ r ∈ xs ∧ Drawn B w w' (b + 1) := by
  obtain ⟨hlen, hcase⟩ := hx.els encSt_length (by decide)
  rcases hcase with ⟨rfl, h⟩ | ⟨bz, off, cap, rfl, hbb, hbs, hnc, hcm, hcell⟩
  · omega
  · have hne : bz ≠ B := hB bz rfl
    have hm := @geta_mem ByteArray _ xs
    clear hB hx
    go_enter Try.func7, Try.ntmps7
    go_wp2_with (go_at_call 34; refine (next_any B b _ _ (by omega) hS hb).mono ?_; rintro e w1 ⟨r, rfl, hr0, hr1, hS1, hg1⟩; have hrl := (hr1 (by omega)).1; have hrh := (hr1 (by omega)).2; have hc := hcell r hrl hrh 0 _ rfl; rw [Nat.mul_one, Nat.add_zero] at hc; replace hc := (World.cell?_of_block (a := ⟨bz, off + r.toNat, none⟩) (hg1.block bz hbs (by simpa using hne))).trans hc; replace hm := hm hrl (by omega); clear hcell)
    go_ret
    exact ⟨_, rfl, hm, hS1, hg1⟩

theorem some_lit (B b : Nat) (xs : List ByteArray) (n : Nat) (cs : Array Value) (e : TypeId) (w : World) (hcs : cs.toList = cellsOf encSt xs) (hl : xs.length = n) (hn0 : 0 < n) (hn : n ≤ 1099511627776) (hS : Str B w b) (hb : b ≤ 1099511627776) :
    Calls Try.prog 7 #[.pointer (some ⟨B, 0, none⟩), .slice (some ⟨w.heap.size, 0, none⟩) n n] (w.alloc (.cells cs e)) fun e w' => ∃ r : ByteArray, e = .returned (.string r) ∧ r ∈ xs ∧ Drawn B w w' (b + 1) := by
  refine (some_any B b _ n xs _ (lit_rowS w e xs n hn hl cs hcs) hn0 hn (by intro k hk; have := hS.lt; simp [Value.ownBlock] at hk; omega) (hS.alloc _) hb).mono ?_
  rintro e w1 ⟨r, rfl, hm, hd⟩
  exact ⟨r, rfl, hm, hd.of_alloc⟩

theorem pick_lit (B b : Nat) (xs : List Int) (n : Nat) (cs : Array Value) (e : TypeId) (w : World) (hcs : cs.toList = xs.map (.int .i64)) (hl : xs.length = n) (hn0 : 0 < n) (hn : n ≤ 1099511627776) (hS : Str B w b) (hb : b ≤ 1099511627776) :
    Calls Try.prog 6 #[.pointer (some ⟨B, 0, none⟩), .slice (some ⟨w.heap.size, 0, none⟩) n n] (w.alloc (.cells cs e)) fun e w' => ∃ r : Int, e = .returned (.int .i64 r) ∧ r ∈ xs ∧ Drawn B w w' (b + 1) := by
  refine (pick_any B b _ n xs _ (lit_row w e xs n hn hl cs hcs) hn0 hn (by intro k hk; have := hS.lt; simp [Value.ownBlock] at hk; omega) (hS.alloc _) hb).mono ?_
  rintro e w1 ⟨r, rfl, hm, h1, h2⟩
  exact ⟨r, rfl, hm, h1, grown_trans (World.grownBy_alloc _ _ _) h2⟩

theorem flip_d (B b : Nat) (n : Int) (w : World) (hS : Str B w b) (hn : decide (n ≤ 1000) = true) (hb : b ≤ 1000000) :
    Calls Try.prog 9 #[.pointer (some ⟨B, 0, none⟩), .int .i64 n] w fun e w' => ∃ r : Bool, e = .returned (.bool r) ∧ Drawn B w w' (b + 1) := by
  refine (flip_any B b n w (by have := of_decide_eq_true hn; omega) hS (by omega)).mono ?_
  rintro e w1 ⟨r, rfl, h1, h2⟩
  exact ⟨r, rfl, h1, h2⟩
theorem next_d (B b : Nat) (n : Int) (w : World) (hS : Str B w b) (hn : 1 ≤ n) (hn' : n ≤ 1000) (hb : b ≤ 1000000) :
    Calls Try.prog 34 #[.pointer (some ⟨B, 0, none⟩), .int .i64 n] w fun e w' => ∃ r : Int, e = .returned (.int .i64 r) ∧ 0 ≤ r ∧ r < n ∧ Drawn B w w' (b + 1) := by
  refine (next_any B b n w (by omega) hS (by omega)).mono ?_
  rintro e w1 ⟨r, rfl, _, hr, h1, h2⟩
  exact ⟨r, rfl, (hr hn).1, (hr hn).2, h1, h2⟩
theorem range_d (B b : Nat) (low high : Int) (w : World) (hS : Str B w b) (hl : decide (0 ≤ low ∧ low ≤ high ∧ high ≤ 1000) = true) (hb : b ≤ 1000000) :
    Calls Try.prog 8 #[.pointer (some ⟨B, 0, none⟩), .int .i64 low, .int .i64 high] w fun e w' => ∃ r : Int, e = .returned (.int .i64 r) ∧ (low ≤ r ∧ r ≤ high) ∧ Drawn B w w' (b + 1) := by
  have hl := of_decide_eq_true hl
  refine (range_any B b low high w (by omega) (by omega) (by omega) (by omega) hS (by omega)).mono ?_
  rintro e w1 ⟨r, rfl, h1, h2, _, h4, h5⟩
  exact ⟨r, rfl, ⟨h1, h2 (by omega)⟩, h4, h5⟩

set_option maxHeartbeats 1000000 in
/-- Odd, within wide bounds. -/
theorem odd_d (B b : Nat) (low high : Int) (w : World) (hl : -1000000 ≤ low) (hl' : low ≤ high) (hh : high ≤ 1000000) (hS : Str B w b) (hb : b ≤ 1000000) :
    Calls Try.prog 10 #[.pointer (some ⟨B, 0, none⟩), .int .i64 low, .int .i64 high] w fun e w' => ∃ r : Int, e = .returned (.int .i64 r) ∧ (-1099511627776 ≤ r ∧ r ≤ 1099511627776) ∧ Drawn B w w' (b + 2) := by
  go_enter Try.func10, Try.ntmps10
  go_wp2_with first
    | (go_at_call 9; refine (flip_d B b _ _ hS rfl hb).mono ?_; rintro e w1 ⟨q, rfl, hd1⟩; cases q)
    | (go_at_call 8; refine (range_any B (b + 1) _ _ _ (by omega) (by omega) (by omega) (by omega) hd1.str (by omega)).mono ?_; rintro e w2 ⟨r, rfl, hr1, hr2, _, hS2, hg2⟩)
    | (go_at_call 6; go_must (refine (pick_lit B (b + 1) [low - 1, high + 1, low, high, -1099511627776, 1099511627776] 6 _ _ _ rfl rfl (by decide) (by decide) hd1.str (by omega)).mono ?_); rintro e w2 ⟨r, rfl, hm, hd2⟩)
  all_goals go_ret
  · have := hr2 hl'
    exact ⟨r, rfl, by omega, ⟨hS2, grown_trans hd1.gr hg2⟩⟩
  · simp only [List.mem_cons, List.mem_nil_iff, or_false] at hm
    exact ⟨r, rfl, by omega, hd1.trans hd2⟩

/-- The first of two errors. -/
def err2 (a b : Int) : Int := if a ≠ 0 then a else b
set_option maxRecDepth 100000 in
set_option maxHeartbeats 1000000 in
theorem errs_two (a b : Int) (w : World) (e : TypeId) :
    Calls Try.prog 14 #[.slice (some ⟨w.heap.size, 0, none⟩) 2 2] (w.alloc (.cells #[.int .i64 a, .int .i64 b] e)) fun x w' => x = .returned (.int .i64 (err2 a b)) ∧ Below w.heap.size w w' := by
  have hb := (Below.refl w.heap.size w).alloc (Nat.le_refl _) (.cells #[.int .i64 a, .int .i64 b] e)
  have c0 := cells_new w #[.int .i64 a, .int .i64 b] e 0 _ rfl
  have c1 := cells_new w #[.int .i64 a, .int .i64 b] e 1 _ rfl
  generalize w.alloc (.cells #[.int .i64 a, .int .i64 b] e) = W at *
  generalize hg : w.heap.size = g at *
  have Hg := Lib.hid hg
  clear hg
  by_cases ha : a = 0
  · have HE : err2 a b = b := by simp [err2, ha]
    rw [HE]
    clear HE
    subst ha
    by_cases hb0 : b = 0
    · subst hb0
      go_enter Try.func14, Try.ntmps14
      go_wp2_with fail
      go_loop [7] (fun i => ∃ k : Int, 0 ≤ k ∧ k ≤ 2 ∧ i = .int .i64 k) (fun i => 2 - (intOf i).toNat)
      case atStart => exact ⟨0, by omega, by omega, rfl⟩
      case round =>
        obtain ⟨k, hk0, hk1, rfl⟩ := hrel
        have hk : k = 0 ∨ k = 1 ∨ k = 2 := by omega
        rcases hk with rfl | rfl | rfl
        · go_wp2_with fail
          go_round
          case rel => exact ⟨1, by omega, by omega, rfl⟩
          case measure => simp [intOf]
        · go_wp2_with fail
          go_round
          case rel => exact ⟨2, by omega, by omega, rfl⟩
          case measure => simp [intOf]
        · go_wp2_with fail
          go_ret
          exact ⟨rfl, hb⟩
    · have hbb : (b != 0) = true := by simp [hb0]
      clear hb0
      go_enter Try.func14, Try.ntmps14
      go_wp2_with fail
      go_loop [7] (fun i => ∃ k : Int, 0 ≤ k ∧ k ≤ 1 ∧ i = .int .i64 k) (fun i => 2 - (intOf i).toNat)
      case atStart => exact ⟨0, by omega, by omega, rfl⟩
      case round =>
        obtain ⟨k, hk0, hk1, rfl⟩ := hrel
        have hk : k = 0 ∨ k = 1 := by omega
        rcases hk with rfl | rfl
        · go_wp2_with fail
          go_round
          case rel => exact ⟨1, by omega, by omega, rfl⟩
          case measure => simp [intOf]
        · go_wp2_with fail
          go_ret
          exact ⟨rfl, hb⟩
  · have HE := Lib.hid (show err2 a b = a by simp [err2, ha])
    have hab : (a != 0) = true := by simp [ha]
    clear ha
    go_enter Try.func14, Try.ntmps14
    go_wp2_with fail
    go_loop [7] (fun i => i = .int .i64 0) (fun i => 2 - (intOf i).toNat)
    case atStart => rfl
    case round =>
      obtain rfl := hrel
      go_wp2_with fail
      go_ret
      exact ⟨ret_int HE.out.symm, hb⟩
end Go.Proofs.Ytkdimgghljklmaa
/-
  A block of cells that the call owns and may write. No condition on a program.
-/
set_option linter.unusedVariables false
namespace Go.Bw
open Go.RowKit
/-- Block g is cs, and may be written. -/
def Blk (w : World) (g : Nat) (cs : List Value) : Prop := g < w.heap.size ∧ (∀ j u, cs[j]? = some u → w.cell? ⟨g, j, none⟩ = some u) ∧ ∀ j, w.frozen? ⟨g, j, none⟩ = false
theorem Blk.new (w : World) (cs : Array Value) (e : TypeId) : Blk (w.alloc (.cells cs e)) w.heap.size cs.toList := ⟨by simp, fun j u h => cells_new w cs e j u h, fun j => frozen_new0 w cs e j⟩
theorem Blk.grow {w w' : World} {g : Nat} {cs : List Value} {row : Option Nat} (h : Blk w g cs) (gr : w.grownBy w' row) (hr : row ≠ some g) : Blk w' g cs :=
  ⟨Nat.lt_of_lt_of_le h.1 gr.size, fun j u hu => (World.cell?_of_block (a := ⟨g, j, none⟩) (gr.block g h.1 (fun e => hr e.symm))).trans (h.2.1 j u hu), fun j => (World.frozen?_of_block (a := ⟨g, j, none⟩) (gr.block g h.1 (fun e => hr e.symm))).trans (h.2.2 j)⟩
theorem Blk.drawn {w w' : World} {g B b : Nat} {cs : List Value} (h : Blk w g cs) (d : Drawn B w w' b) (hg : g ≠ B) : Blk w' g cs := h.grow d.gr (by simp; omega)
theorem Blk.alloc {w : World} {g : Nat} {cs : List Value} (h : Blk w g cs) (o : Obj) : Blk (w.alloc o) g cs := h.grow (World.grownBy_alloc w o none) (by simp)
theorem Blk.other {w : World} {g g' o : Nat} {cs : List Value} (h : Blk w g cs) (u : Value) (hg : g' ≠ g) : Blk (w.setCell ⟨g', o, none⟩ u) g cs := h.grow (grown_setCell w g' o u) (by simp; omega)
theorem Blk.set {w : World} {g : Nat} {cs : List Value} (h : Blk w g cs) (j : Nat) (hj : j < cs.length) (u : Value) : Blk (w.setCell ⟨g, j, none⟩ u) g (cs.set j u) := by
  refine ⟨by simpa [World.setCell] using h.1, fun i x hx => ?_, fun i => by rw [World.frozen?_setCell]; exact h.2.2 i⟩
  by_cases hi : i = j
  · subst hi
    have : x = u := by
      rw [List.getElem?_set_self hj] at hx
      exact (Option.some.inj hx).symm
    subst this
    have hc := h.2.1 i _ (List.getElem?_eq_getElem hj)
    exact World.cell?_setCell_same' _ _ _ (by rw [hc]; rfl)
  · rw [List.getElem?_set_ne (fun e => hi e.symm)] at hx
    rw [World.cell?_setCell_other _ _ _ _ (by simp <;> omega)]
    exact h.2.1 i x hx
/-- A store into a block of the call's own. -/
theorem Drawn.set {n₀ b g o : Nat} {w w' : World} (h : Drawn n₀ w w' b) (u : Value) (hg : w.heap.size ≤ g) (hn : n₀ < g) : Drawn n₀ w (w'.setCell ⟨g, o, none⟩ u) b := by
  refine ⟨h.str.kept (grown_setCell w' g o u) (fun k hk => by cases hk; exact hn), ⟨h.gr.os, h.gr.tape, h.gr.output, by simpa [World.setCell] using h.gr.size, fun k hk hne => ?_⟩⟩
  rw [Below.heap_setCell _ _ _ _ (fun e => by simp at e; omega), h.gr.block k hk hne]
theorem owns_other {w : World} {g o base e sz n : Nat} {v u : Value} {xs : List Value} (h : w.ownsRow base e sz v n xs) (hg : ∀ k, v.ownBlock = some k → k ≠ g) : (w.setCell ⟨g, o, none⟩ u).ownsRow base e sz v n xs :=
  h.kept (grown_setCell w g o u) (.inr (fun e => hg g (by simpa using e) rfl))
end Go.Bw
