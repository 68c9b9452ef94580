/-
  Contracts and lemmas towards the statement, of several parts; each part says ahead of it what it holds and under which conditions.
-/
import Derived.Test.YtnmdpphddimfbaaMg7
import Derived.Test.YtnmdpphddimfbaaMg2
import Derived.Test.YtnmdpphddimfbaaMg1
/-
  Line-ups: who sits on the bench, who comes in, the reference's look (BenchOf, SubbedOf). Conditions: right slots, scorers, fills and benches; strings of at most 1000 bytes.
-/
set_option linter.unusedVariables false
namespace Go.Proofs.Ytnmdpphddimfbaa
open Go.RowKit Go.Bw
theorem el_stJ : Elem Try.prog 32 9 (.string ByteArray.empty) 1 16 := ⟨by kernel_rfl, by kernel_rfl, by kernel_rfl, by decide, by decide⟩
def benchK (L : List ScD) (F : List FlD) : Nat → List ByteArray
  | 0 => []
  | k + 1 => if isInB F (geta L (k : Int)).pl = true then benchK L F k else benchK L F k ++ [(geta L (k : Int)).pl]
theorem benchK_le (L : List ScD) (F : List FlD) : ∀ k, (benchK L F k).length ≤ k
  | 0 => Nat.le_refl _
  | k + 1 => by
    have ih := benchK_le L F k
    show (if isInB F (geta L (k : Int)).pl = true then benchK L F k else benchK L F k ++ [(geta L (k : Int)).pl]).length ≤ k + 1
    split
    · omega
    · simp; omega
theorem benchK_mem (L : List ScD) (F : List FlD) (x : ByteArray) : ∀ k, x ∈ benchK L F k ↔ (∃ j : Nat, j < k ∧ (geta L (j : Int)).pl = x) ∧ isInB F x = false
  | 0 => by simp [benchK]
  | k + 1 => by
    have ih := benchK_mem L F x k
    show x ∈ (if isInB F (geta L (k : Int)).pl = true then benchK L F k else benchK L F k ++ [(geta L (k : Int)).pl]) ↔ _
    split
    · rename_i h
      rw [ih]
      constructor
      · rintro ⟨⟨j, h1, h2⟩, h3⟩
        exact ⟨⟨j, by omega, h2⟩, h3⟩
      · rintro ⟨⟨j, h1, h2⟩, h3⟩
        refine ⟨⟨j, ?_, h2⟩, h3⟩
        by_cases e : j = k
        · subst e
          rw [h2, h3] at h
          cases h
        · omega
    · rename_i h
      rw [List.mem_append, ih]
      constructor
      · rintro (⟨⟨j, h1, h2⟩, h3⟩ | h1)
        · exact ⟨⟨j, by omega, h2⟩, h3⟩
        · simp at h1
          subst h1
          exact ⟨⟨k, by omega, rfl⟩, by simpa using h⟩
      · rintro ⟨⟨j, h1, h2⟩, h3⟩
        by_cases e : j = k
        · subst e
          exact .inr (by simp [h2])
        · exact .inl ⟨⟨j, by omega, h2⟩, h3⟩
theorem bench_has {L : List ScD} {F : List FlD} {x : ByteArray} (h : ¬ scIdx L x < 0) : hasS (benchK L F L.length) x = !isInB F x := by
  have h0 : 0 ≤ scIdx L x := by omega
  obtain ⟨h1, h2⟩ := idxI_lt (l := L) (p := fun y => decide (y.pl = x)) h0
  have h2 : (geta L (scIdx L x)).pl = x := of_decide_eq_true h2
  have hm := benchK_mem L F x L.length
  have hx : ∃ j : Nat, j < L.length ∧ (geta L (j : Int)).pl = x := ⟨(scIdx L x).toNat, by have : scIdx L x < L.length := h1; omega, by rw [Int.toNat_of_nonneg h0]; exact h2⟩
  cases hb : isInB F x with
  | true =>
    cases hh : hasS (benchK L F L.length) x with
    | false => rfl
    | true =>
      have := hm.1 ((hasS_iff _ _).1 hh)
      rw [hb] at this
      exact absurd this.2 (by decide)
  | false => exact (hasS_iff _ _).2 (hm.2 ⟨hx, hb⟩)
/-- The bench so far. -/
structure BoW (w0 : World) (L : List ScD) (F : List FlD) (v5 : Value) (k : Nat) (w : World) : Prop where
  bel : Below w0.heap.size w0 w
  own : w.ownsRow w0.heap.size 9 1 v5 (benchK L F k).length (cellsOf encSt (benchK L F k))
theorem BoW.below {w0 w w' : World} {L : List ScD} {F : List FlD} {v5 : Value} {k : Nat} (h : BoW w0 L F v5 k w) (b : Below w.heap.size w w') : BoW w0 L F v5 k w' := ⟨h.bel.trans (b.mono h.bel.size), owns_below h.own b (Nat.le_refl _)⟩
theorem BoW.step {w0 w : World} {L : List ScD} {F : List FlD} {v5 : Value} {k : Nat} (h : BoW w0 L F v5 k w) (e : isInB F (geta L (k : Int)).pl = true) : BoW w0 L F v5 (k + 1) w := by
  have e2 : benchK L F (k + 1) = benchK L F k := if_pos e
  exact ⟨h.bel, by rw [e2]; exact h.own⟩
theorem BoW.app {w0 w w' : World} {L : List ScD} {F : List FlD} {v5 v' : Value} {k : Nat} (h : BoW w0 L F v5 k w) (e : isInB F (geta L (k : Int)).pl = false) (ho : w'.ownsRow w0.heap.size 9 1 v' ((benchK L F k).length + 1) (cellsOf encSt (benchK L F k) ++ [.string (geta L (k : Int)).pl])) (g : w.grownBy w' v5.ownBlock) : BoW w0 L F v' (k + 1) w' := by
  have e2 : benchK L F (k + 1) = benchK L F k ++ [(geta L (k : Int)).pl] := if_neg (by rw [e]; decide)
  refine ⟨h.bel.grown g h.bel.size (fun j hj => (h.own.lt j hj).1), ?_⟩
  rw [e2, cellsOf_snoc, List.length_append]
  exact ho
noncomputable def boR : Code := (Try.f49.body).getD .skip
set_option maxRecDepth 100000 in
theorem fr_boR (f : Nat → Value) : frame 25 f = ⟨#[f 0, f 1, f 2, f 3, f 4, f 5, f 6, f 7, f 8, f 9, f 10, f 11, f 12, f 13, f 14, f 15, f 16, f 17, f 18, f 19, f 20, f 21, f 22, f 23, f 24], []⟩ := by rfl
set_option maxRecDepth 100000 in
set_option maxHeartbeats 1000000 in
theorem bo0 (w0 : World) (vl vf : Value) (L : List ScD) (Fs : List FlD) (hl : ScH w0 vl L) (hf : FlH w0 vf Fs) : T3 Try.prog (fun a w => (Below w0.heap.size w0 w) ∧ Fr 25 [(0, vl), (1, vf)] a) (sel [0] boR) (fun a w => (Below w0.heap.size w0 w) ∧ Fr 25 [(0, vl), (1, vf)] a) No 9 No := by
  refine T3.leaf ?_
  rintro Q JS JX JT K_ hS hK hX hE hT hR a w ⟨hW, ⟨fr, rfl, q0, q1, _⟩⟩
  have HW := Lib.hid hW
  obtain ⟨p2, c2, hv2⟩ := hl.r.shape
  subst hv2
  obtain ⟨p3, c3, hv3⟩ := hf.r.shape
  subst hv3
  clear hW
  rw [fr_boR, show fr 0 = _ from q0, show fr 1 = _ from q1]
  clear q0 q1
  conv => arg 2; whnf
  go_wp2_with fail
  refine Met.intro (hS _ _ ?_)
  exact ⟨HW.out, Fr.of _ rfl ⟨rfl, rfl, trivial⟩⟩

set_option maxRecDepth 100000 in
set_option maxHeartbeats 1000000 in
theorem bo1 (w0 : World) (vl vf : Value) (L : List ScD) (Fs : List FlD) (hl : ScH w0 vl L) (hf : FlH w0 vf Fs) : T3 Try.prog (fun a w => (Below w0.heap.size w0 w) ∧ Fr 25 [(0, vl), (1, vf)] a) (sel [1, 0] boR) (fun a w => (BoW w0 L Fs (.slice none 0 0) 0 w) ∧ Fr 25 [(0, vl), (1, vf), (5, .slice none 0 0)] a) No 9 No := by
  refine T3.leaf ?_
  rintro Q JS JX JT K_ hS hK hX hE hT hR a w ⟨hW, ⟨fr, rfl, q0, q1, _⟩⟩
  have HB := Lib.hid (show BoW w0 L Fs (.slice none 0 0) 0 w from ⟨hW, World.ownsRow_nil _ _ _ _⟩)
  have HW := Lib.hid hW
  obtain ⟨p2, c2, hv2⟩ := hl.r.shape
  subst hv2
  obtain ⟨p3, c3, hv3⟩ := hf.r.shape
  subst hv3
  clear hW
  rw [fr_boR, show fr 0 = _ from q0, show fr 1 = _ from q1]
  clear q0 q1
  conv => arg 2; whnf
  go_wp2_with fail
  refine Met.intro (hS _ _ ?_)
  exact ⟨HB.out, Fr.of _ rfl ⟨rfl, rfl, rfl, trivial⟩⟩

set_option maxRecDepth 100000 in
set_option maxHeartbeats 1000000 in
theorem bo2 (w0 : World) (vl vf : Value) (L : List ScD) (Fs : List FlD) (hl : ScH w0 vl L) (hf : FlH w0 vf Fs) : T3 Try.prog (fun a w => (BoW w0 L Fs (.slice none 0 0) 0 w) ∧ Fr 25 [(0, vl), (1, vf), (5, .slice none 0 0)] a) (sel [1, 1, 0, 0] boR) (fun a w => (0 ≤ (0 : Int) ∧ (0 : Int) ≤ L.length) ∧ ∃ (v5 : Value), (BoW w0 L Fs v5 (0 : Int).toNat w) ∧ Fr 25 [(0, vl), (1, vf), (5, v5), (8, vl), (9, .int .i64 L.length), (10, .int .i64 0)] a) No 9 No := by
  refine T3.leaf ?_
  rintro Q JS JX JT K_ hS hK hX hE hT hR a w ⟨hW, ⟨fr, rfl, q0, q1, q5, _⟩⟩
  have hln := hl.n
  have HW := Lib.hid hW
  obtain ⟨p2, c2, hv2⟩ := hl.r.shape
  subst hv2
  obtain ⟨p3, c3, hv3⟩ := hf.r.shape
  subst hv3
  clear hW
  rw [fr_boR, show fr 0 = _ from q0, show fr 1 = _ from q1, show fr 5 = _ from q5]
  clear q0 q1 q5
  conv => arg 2; whnf
  go_wp2_with fail
  refine Met.intro (hS _ _ ?_)
  exact ⟨⟨by omega, by omega⟩, _, HW.out, Fr.of _ rfl ⟨rfl, rfl, rfl, rfl, rfl, rfl, trivial⟩⟩

set_option maxRecDepth 100000 in
set_option maxHeartbeats 1000000 in
theorem bo4 (w0 : World) (vl vf : Value) (L : List ScD) (Fs : List FlD) (hl : ScH w0 vl L) (hf : FlH w0 vf Fs) (k : Int) : T3 Try.prog (fun a w => ∃ (v5 : Value), (0 ≤ k ∧ k < L.length) ∧ (BoW w0 L Fs v5 (k : Int).toNat w) ∧ Fr 25 [(0, vl), (1, vf), (5, v5), (8, vl), (9, .int .i64 L.length), (10, .int .i64 k)] a) (sel [1, 1, 0, 1, 4, 4, 1, 1, 0, 4, 0] boR) (fun a w => ∃ (v5 : Value) (g7 : Nat), (0 ≤ k ∧ k < L.length) ∧ (BoW w0 L Fs v5 k.toNat w ∧ ScB w g7 (geta L k)) ∧ Fr 25 [(0, vl), (1, vf), (5, v5), (7, .pointer (some ⟨g7, 0, none⟩)), (8, vl), (9, .int .i64 L.length), (10, .int .i64 k)] a) No 9 No := by
  refine T3.leaf ?_
  rintro Q JS JX JT K_ hS hK hX hE hT hR a w ⟨v5, hpre, hW, ⟨fr, rfl, q0, q1, q5, q8, q9, q10, _⟩⟩
  have hpp := Lib.hid hpre
  obtain ⟨hk0, hk1⟩ := hpre
  have hln := hl.n
  have hHW := Lib.hid hW
  have hR := (hl.below hW.bel).r
  obtain ⟨qq, dd, hq⟩ := (hl.p _ (geta_mem hk0 hk1)).r.shape
  obtain ⟨p5, c5, hv5⟩ := (Row.of_owns hW.own).shape
  subst hv5
  obtain ⟨p2, c2, hv2⟩ := hl.r.shape
  subst hv2
  obtain ⟨p3, c3, hv3⟩ := hf.r.shape
  subst hv3
  obtain ⟨bz, off, rfl, hnc, hcm, hcell⟩ := Row.nonnil hR (by omega)
  have t0 := Row.elAt encSc_length hcell hk0 hk1 0 _ (by decide) rfl
  have t1 := Row.elAt encSc_length hcell hk0 hk1 1 _ (by decide) rfl
  have t2 := Row.elAt encSc_length hcell hk0 hk1 2 _ (by decide) rfl
  have t3 := Row.elAt encSc_length hcell hk0 hk1 3 _ (by decide) rfl
  have t4 := Row.elAt encSc_length hcell hk0 hk1 4 _ (by decide) rfl
  rw [Nat.add_zero] at t0
  have HB := Lib.hid (ScB.new w (geta L k) 63)
  have HA := Lib.hid (fun o => (Below.refl w.heap.size w).alloc (Nat.le_refl _) o)
  clear hcell hR hW hl hf
  generalize geta L k = x at *
  obtain ⟨xk, xv, xps, xn, xd, xp⟩ := x
  simp only at hq t0 t1 t2 t3 t4
  subst hq
  rw [fr_boR, show fr 0 = _ from q0, show fr 1 = _ from q1, show fr 5 = _ from q5, show fr 8 = _ from q8, show fr 9 = _ from q9, show fr 10 = _ from q10]
  clear q0 q1 q5 q8 q9 q10
  conv => arg 2; whnf
  go_wp2_with fail
  refine Met.intro (hS _ _ ?_)
  exact ⟨_, _, hpp.out, ⟨hHW.out.below (HA.out _), HB.out⟩, Fr.of _ rfl ⟨rfl, rfl, rfl, rfl, rfl, rfl, rfl, trivial⟩⟩

set_option maxRecDepth 100000 in
set_option maxHeartbeats 1000000 in
theorem bo5 (w0 : World) (vl vf : Value) (L : List ScD) (Fs : List FlD) (hl : ScH w0 vl L) (hf : FlH w0 vf Fs) (k : Int) (v5 : Value) (g7 : Nat) : T3 Try.prog (fun a w => (0 ≤ k ∧ k < L.length) ∧ (BoW w0 L Fs v5 k.toNat w ∧ ScB w g7 (geta L k)) ∧ Fr 25 [(0, vl), (1, vf), (5, v5), (7, .pointer (some ⟨g7, 0, none⟩)), (8, vl), (9, .int .i64 L.length), (10, .int .i64 k)] a) (sel [1, 1, 0, 1, 4, 4, 1, 1, 0, 4, 1, 0] boR) (fun a w => ∃ q, Fr 25 ((17, .bool q) :: [(0, vl), (1, vf), (5, v5), (7, .pointer (some ⟨g7, 0, none⟩)), (8, vl), (9, .int .i64 L.length), (10, .int .i64 k)]) a ∧ (((0 ≤ k ∧ k < L.length) ∧ q = !isInB Fs (geta L k).pl) ∧ BoW w0 L Fs v5 k.toNat w ∧ ScB w g7 (geta L k))) No 9 No := by
  refine T3.leaf ?_
  rintro Q JS JX JT K_ hS hK hX hE hT hR a w ⟨hpre, hW, ⟨fr, rfl, q0, q1, q5, q7, q8, q9, q10, _⟩⟩
  have hpp := Lib.hid hpre
  have HW := Lib.hid hW
  have HC := Lib.hid (any_fl 73 Try.call73 (.pointer (some ⟨g7, 0, none⟩)) vf Fs (fun y => decide (y.pl = (geta L k).pl)) 0 w (hf.below hW.1.bel).r (by have := hf.n; omega) (fun y _ w1 hb1 => cl_flO y.sl y.pl (geta L k).pl g7 w1 (hW.2.below hb1).c0))
  have hE : (Fs.any fun y => decide (y.pl = (geta L k).pl)) = isInB Fs (geta L k).pl := rfl
  rw [hE] at HC
  obtain ⟨p5, c5, hv5⟩ := (Row.of_owns hW.1.own).shape
  subst hv5
  obtain ⟨p2, c2, hv2⟩ := hl.r.shape
  subst hv2
  obtain ⟨p3, c3, hv3⟩ := hf.r.shape
  subst hv3
  clear hW hl hf hE
  generalize isInB Fs (geta L k).pl = iq at *
  rw [fr_boR, show fr 0 = _ from q0, show fr 1 = _ from q1, show fr 5 = _ from q5, show fr 7 = _ from q7, show fr 8 = _ from q8, show fr 9 = _ from q9, show fr 10 = _ from q10]
  clear q0 q1 q5 q7 q8 q9 q10
  conv => arg 2; whnf
  go_wp2_with fail
  refine HC.out.mono ?_
  rintro e w1 ⟨rfl, hb1⟩
  have HR := Lib.hid (show BoW w0 L Fs _ k.toNat w1 ∧ ScB w1 g7 (geta L k) from ⟨HW.out.1.below hb1, HW.out.2.below hb1⟩)
  clear hb1
  go_wp2_with fail
  have hpre := hpp.out
  refine Met.intro (hS _ _ ?_)
  exact ⟨_, Fr.of _ rfl ⟨rfl, rfl, rfl, rfl, rfl, rfl, rfl, rfl, trivial⟩, ⟨hpre, rfl⟩, HR.out⟩

set_option maxRecDepth 100000 in
set_option maxHeartbeats 1000000 in
theorem bo6 (w0 : World) (vl vf : Value) (L : List ScD) (Fs : List FlD) (hl : ScH w0 vl L) (hf : FlH w0 vf Fs) (k : Int) (v5 : Value) (g7 : Nat) (hin : isInB Fs (geta L k).pl = false) : T3 Try.prog (fun a w => (0 ≤ k ∧ k < L.length) ∧ (BoW w0 L Fs v5 k.toNat w ∧ ScB w g7 (geta L k)) ∧ Fr 25 [(0, vl), (1, vf), (5, v5), (7, .pointer (some ⟨g7, 0, none⟩)), (8, vl), (9, .int .i64 L.length), (10, .int .i64 k)] a) (sel [1, 1, 0, 1, 4, 4, 1, 1, 0, 4, 1, 1, 2] boR) (fun a w => ∃ (v5 : Value), (0 ≤ k ∧ k < L.length) ∧ (BoW w0 L Fs v5 ((k + 1) : Int).toNat w) ∧ Fr 25 [(0, vl), (1, vf), (5, v5), (8, vl), (9, .int .i64 L.length), (10, .int .i64 k)] a) No 9 No := by
  refine T3.leaf ?_
  rintro Q JS JX JT K_ hS hK hX hE hT hR a w ⟨hpre, hW, ⟨fr, rfl, q0, q1, q5, q7, q8, q9, q10, _⟩⟩
  have hpp := Lib.hid hpre
  obtain ⟨hk0, hk1⟩ := hpre
  have hln := hl.n
  have hble := benchK_le L Fs k.toNat
  have hE1 := el_stJ
  have t0 := hW.2.c0
  have ek : ((k.toNat : Nat) : Int) = k := Int.toNat_of_nonneg hk0
  have HA := Lib.hid (fun v' w' ho g => BoW.app (k := k.toNat) (v' := v') (w' := w') (hW.1.below ((Below.refl w.heap.size w).alloc (Nat.le_refl _) (.cells #[.string (geta L k).pl] 9))) (by rw [ek]; exact hin) (by rw [ek]; exact ho) g)
  have e1 : (k + 1).toNat = k.toNat + 1 := by omega
  rw [← e1] at HA
  have hown := hW.1.own.alloc (.cells #[.string (geta L k).pl] 9)
  have hbs : w0.heap.size ≤ (w.alloc (.cells #[.string (geta L k).pl] 9)).heap.size := by simp; have := hW.1.bel.size; omega
  obtain ⟨p5, c5, hv5⟩ := (Row.of_owns hW.1.own).shape
  subst hv5
  obtain ⟨p2, c2, hv2⟩ := hl.r.shape
  subst hv2
  obtain ⟨p3, c3, hv3⟩ := hf.r.shape
  subst hv3
  clear hW hl hf ek e1 hin
  generalize (geta L k).pl = x at *
  rw [fr_boR, show fr 0 = _ from q0, show fr 1 = _ from q1, show fr 5 = _ from q5, show fr 7 = _ from q7, show fr 8 = _ from q8, show fr 9 = _ from q9, show fr 10 = _ from q10]
  clear q0 q1 q5 q7 q8 q9 q10
  conv => arg 2; whnf
  go_wp2_with (at_builtin; refine app_law rfl _ _ _ rfl hE1 hown rfl [.string x] rfl rfl (cells_new w #[_] _) (by simp [Value.oneCell']) (by omega) hbs ?_; intro v' w3 hown3 hgr)
  refine Met.intro (hS _ _ ?_)
  exact ⟨_, hpp.out, HA.out _ _ hown3 hgr, Fr.of _ rfl ⟨rfl, rfl, rfl, rfl, rfl, rfl, trivial⟩⟩

set_option maxRecDepth 100000 in
set_option maxHeartbeats 1000000 in
theorem bo_b (w0 : World) (vl vf : Value) (L : List ScD) (Fs : List FlD) (hl : ScH w0 vl L) (hf : FlH w0 vf Fs) (k : Int) : T3 Try.prog (fun a w => ∃ (v5 : Value), (0 ≤ k ∧ k < L.length) ∧ (BoW w0 L Fs v5 (k : Int).toNat w) ∧ Fr 25 [(0, vl), (1, vf), (5, v5), (8, vl), (9, .int .i64 L.length), (10, .int .i64 k)] a) (sel [1, 1, 0, 1, 4, 4, 1, 1, 0] boR) (fun a w => ∃ (v5 : Value), (0 ≤ k ∧ k < L.length) ∧ (BoW w0 L Fs v5 ((k + 1) : Int).toNat w) ∧ Fr 25 [(0, vl), (1, vf), (5, v5), (8, vl), (9, .int .i64 L.length), (10, .int .i64 k)] a) No 100 No := by
  refine T3.block (id' := 1) (c := (sel [1, 1, 0, 1, 4, 4, 1, 1, 0, 4] boR)) (by decide) ?_
  refine T3.seq (s := (sel [1, 1, 0, 1, 4, 4, 1, 1, 0, 4, 0] boR)) (c := (sel [1, 1, 0, 1, 4, 4, 1, 1, 0, 4, 1] boR)) ((bo4 w0 vl vf L Fs hl hf k).noX) (T3.ex fun v5 => T3.ex fun g7 => ?_)
  refine T3.test (s := (sel [1, 1, 0, 1, 4, 4, 1, 1, 0, 4, 1, 0] boR)) (x := (sel [1, 1, 0, 1, 4, 4, 1, 1, 0, 4, 1, 1, 2] boR)) (y := .skip) (C := fun q => ((0 ≤ k ∧ k < L.length) ∧ q = !isInB Fs (geta L k).pl)) (W := fun w => BoW w0 L Fs v5 k.toNat w ∧ ScB w g7 (geta L k)) (by decide) ((bo5 w0 vl vf L Fs hl hf k v5 g7).noX) ?_ (T3.skip ?_)
  · refine T3.pre (R := fun a w => (isInB Fs (geta L k).pl = false) ∧ (0 ≤ k ∧ k < L.length) ∧ (BoW w0 L Fs v5 k.toNat w ∧ ScB w g7 (geta L k)) ∧ Fr 25 [(0, vl), (1, vf), (5, v5), (7, .pointer (some ⟨g7, 0, none⟩)), (8, vl), (9, .int .i64 L.length), (10, .int .i64 k)] a) (T3.pure fun hin => (bo6 w0 vl vf L Fs hl hf k v5 g7 hin).noX) (fun a w q => ⟨by simpa using q.2.1.2.symm, q.2.1.1, q.2.2, q.1.tail⟩)
  · rintro a w ⟨⟨hk, hq⟩, hW, hF⟩
    refine ⟨v5, hk, ?_, hF.sub (by simp)⟩
    rw [show (k + 1).toNat = k.toNat + 1 by omega]
    exact hW.1.step (by rw [Int.toNat_of_nonneg hk.1]; simpa using hq.symm)

def boLI (w0 : World) (vl vf : Value) (L : List ScD) (Fs : List FlD) (hl : ScH w0 vl L) (hf : FlH w0 vf Fs) (k : Int) (a : Act) (w : World) : Prop := (0 ≤ k ∧ k ≤ L.length) ∧ ∃ (v5 : Value), (BoW w0 L Fs v5 (k : Int).toNat w) ∧ Fr 25 [(0, vl), (1, vf), (5, v5), (8, vl), (9, .int .i64 L.length), (10, .int .i64 k)] a
set_option maxRecDepth 100000 in
set_option maxHeartbeats 1000000 in
theorem boLt (w0 : World) (vl vf : Value) (L : List ScD) (Fs : List FlD) (hl : ScH w0 vl L) (hf : FlH w0 vf Fs) (k : Int) : T3 Try.prog (fun a w => boLI w0 vl vf L Fs hl hf k a w) (sel [1, 1, 0, 1, 4, 4, 0] boR) (fun a w => ∃ q, Fr 25 ((11, .bool q) :: [(10, .int .i64 k)]) a ∧ ((q = true ↔ k < L.length) ∧ boLI w0 vl vf L Fs hl hf k a w)) No 9 No := by
  refine T3.leaf ?_
  rintro Q JS JX JT K_ hS hK hX hE hT hR a w ⟨hk, v5, hW, ⟨fr, rfl, q0, q1, q5, q8, q9, q10, _⟩⟩
  have hln := hl.n
  rw [fr_boR, show fr 0 = _ from q0, show fr 1 = _ from q1, show fr 5 = _ from q5, show fr 8 = _ from q8, show fr 9 = _ from q9, show fr 10 = _ from q10]
  clear q0 q1 q5 q8 q9 q10
  conv => arg 2; whnf
  by_cases hlt : k < L.length
  · go_wp2_with fail
    refine Met.intro (hS _ _ ?_)
    exact ⟨true, Fr.of _ rfl ⟨rfl, rfl, trivial⟩, ⟨fun _ => hlt, fun _ => rfl⟩, hk, v5, hW, Fr.of _ rfl ⟨rfl, rfl, rfl, rfl, rfl, rfl, trivial⟩⟩
  · have hpb : decide (k < (L.length : Int)) = false := by simp; omega
    go_wp2_with fail
    refine Met.intro (hS _ _ ?_)
    exact ⟨false, Fr.of _ rfl ⟨rfl, rfl, trivial⟩, ⟨(fun h => by cases h), fun h => absurd h (by omega)⟩, hk, v5, hW, Fr.of _ rfl ⟨rfl, rfl, rfl, rfl, rfl, rfl, trivial⟩⟩

set_option maxRecDepth 100000 in
set_option maxHeartbeats 1000000 in
theorem boLn (w0 : World) (vl vf : Value) (L : List ScD) (Fs : List FlD) (hl : ScH w0 vl L) (hf : FlH w0 vf Fs) (k : Int) : T3 Try.prog (fun a w => (0 ≤ k ∧ k < L.length) ∧ ∃ (v5 : Value), (BoW w0 L Fs v5 ((k + 1) : Int).toNat w) ∧ Fr 25 [(0, vl), (1, vf), (5, v5), (8, vl), (9, .int .i64 L.length), (10, .int .i64 k)] a) (sel [1, 1, 0, 1, 4, 4, 1, 1, 1] boR) (fun a w => boLI w0 vl vf L Fs hl hf (k + 1) a w) No 9 No := by
  refine T3.leaf ?_
  rintro Q JS JX JT K_ hS hK hX hE hT hR a w ⟨hk, v5, hW, ⟨fr, rfl, q0, q1, q5, q8, q9, q10, _⟩⟩
  obtain ⟨hk0, hk1⟩ := hk
  have hln := hl.n
  rw [fr_boR, show fr 0 = _ from q0, show fr 1 = _ from q1, show fr 5 = _ from q5, show fr 8 = _ from q8, show fr 9 = _ from q9, show fr 10 = _ from q10]
  clear q0 q1 q5 q8 q9 q10
  conv => arg 2; whnf
  go_wp2_with fail
  refine Met.intro (hS _ _ ?_)
  exact ⟨⟨by omega, by omega⟩, v5, hW, Fr.of _ rfl ⟨rfl, rfl, rfl, rfl, rfl, rfl, trivial⟩⟩

set_option maxRecDepth 100000 in
set_option maxHeartbeats 1000000 in
theorem boLloop (w0 : World) (vl vf : Value) (L : List ScD) (Fs : List FlD) (hl : ScH w0 vl L) (hf : FlH w0 vf Fs) : T3 Try.prog (fun a w => boLI w0 vl vf L Fs hl hf 0 a w) (sel [1, 1, 0, 1] boR) (fun a w => ∃ (v5 : Value), (BoW w0 L Fs v5 L.length w) ∧ Fr 25 [(5, v5)] a) No 9 No := by
  refine T3.loop (c := (sel [1, 1, 0, 1, 4, 4] boR)) (fun ng_ a w => ∃ k : Int, (ng_ : Int) = L.length - k ∧ boLI w0 vl vf L Fs hl hf k a w) (fun a w h => ⟨(L.length : Int).toNat, 0, by have := h.1.2; omega, h⟩) (fun ng_ => T3.ex fun k => T3.pure fun hng_ => ?_)
  refine T3.seq (s := (sel [1, 1, 0, 1, 4, 4, 0] boR)) (c := (sel [1, 1, 0, 1, 4, 4, 1] boR)) ((boLt w0 vl vf L Fs hl hf k).noX) ?_
  refine T3.seq (s := (sel [1, 1, 0, 1, 4, 4, 1, 0] boR)) (c := (sel [1, 1, 0, 1, 4, 4, 1, 1] boR)) (S := fun a w => (0 ≤ k ∧ k < L.length) ∧ ∃ (v5 : Value), (BoW w0 L Fs v5 (k : Int).toNat w) ∧ Fr 25 [(0, vl), (1, vf), (5, v5), (8, vl), (9, .int .i64 L.length), (10, .int .i64 k)] a) ?_ (T3.seq (s := (sel [1, 1, 0, 1, 4, 4, 1, 1, 0] boR)) (c := (sel [1, 1, 0, 1, 4, 4, 1, 1, 1] boR)) (S := fun a w => (0 ≤ k ∧ k < L.length) ∧ ∃ (v5 : Value), (BoW w0 L Fs v5 ((k + 1) : Int).toNat w) ∧ Fr 25 [(0, vl), (1, vf), (5, v5), (8, vl), (9, .int .i64 L.length), (10, .int .i64 k)] a) (T3.noX (T3.mono (R' := fun a w => (0 ≤ k ∧ k < L.length) ∧ ∃ (v5 : Value), (BoW w0 L Fs v5 (k : Int).toNat w) ∧ Fr 25 [(0, vl), (1, vf), (5, v5), (8, vl), (9, .int .i64 L.length), (10, .int .i64 k)] a) (S' := fun a w => (0 ≤ k ∧ k < L.length) ∧ ∃ (v5 : Value), (BoW w0 L Fs v5 ((k + 1) : Int).toNat w) ∧ Fr 25 [(0, vl), (1, vf), (5, v5), (8, vl), (9, .int .i64 L.length), (10, .int .i64 k)] a) (bo_b w0 vl vf L Fs hl hf k) (fun a w ⟨hk, v5, hI⟩ => ⟨v5, hk, hI⟩) (fun a w ⟨v5, hk, hI⟩ => ⟨hk, v5, hI⟩) (fun _ _ q => q) (fun _ _ q => q))) ?_)
  · refine T3.cond (o := .tmp 11) (x := .skip) (y := .exit 0) (fun a w => k < L.length ∧ boLI w0 vl vf L Fs hl hf k a w) (fun a w => ¬ k < L.length ∧ boLI w0 vl vf L Fs hl hf k a w) ?_ (T3.skip ?_) (T3.exit ?_)
    · rintro a w ⟨q, hF, hq, hI⟩
      have he := hF.eval 11 (by decide) (v := .bool q) (by simp)
      cases q
      · exact .inr ⟨he, (fun h => by have := hq.2 h; cases this), hI⟩
      · exact .inl ⟨he, hq.1 rfl, hI⟩
    · rintro a w ⟨hlt, hk, hI⟩
      exact ⟨⟨hk.1, hlt⟩, hI⟩
    · rintro a w ⟨hlt, hk, hI⟩
      obtain rfl : k = L.length := by omega
      obtain ⟨v5, hW, hF⟩ := hI
      rw [show ((L.length : Nat) : Int).toNat = L.length by omega] at hW
      exact ⟨v5, hW, hF.sub (by simp)⟩
  · intro a w hx
    have hk := hx.1
    exact (((boLn w0 vl vf L Fs hl hf k).noX).post (fun a w q => ⟨ng_ - 1, by omega, k + 1, by omega, q⟩)) a w hx
set_option maxRecDepth 100000 in
set_option maxHeartbeats 1000000 in
theorem bo8 (w0 : World) (vl vf : Value) (L : List ScD) (Fs : List FlD) (hl : ScH w0 vl L) (hf : FlH w0 vf Fs) (v5 : Value) : T3 Try.prog (fun a w => (BoW w0 L Fs v5 L.length w) ∧ Fr 25 [(5, v5)] a) (sel [1, 1, 1, 0] boR) (fun a w => (BoW w0 L Fs v5 L.length w) ∧ Fr 25 [(4, v5)] a) No 9 No := by
  refine T3.leaf ?_
  rintro Q JS JX JT K_ hS hK hX hE hT hR a w ⟨hW, ⟨fr, rfl, q5, _⟩⟩
  have HW := Lib.hid hW
  obtain ⟨p5, c5, hv5⟩ := (Row.of_owns hW.own).shape
  subst hv5
  clear hW
  rw [fr_boR, show fr 5 = _ from q5]
  clear q5
  conv => arg 2; whnf
  go_wp2_with fail
  refine Met.intro (hS _ _ ?_)
  exact ⟨HW.out, Fr.of _ rfl ⟨rfl, trivial⟩⟩

set_option maxRecDepth 100000 in
set_option maxHeartbeats 1000000 in
theorem bo_all (w0 : World) (vl vf : Value) (L : List ScD) (Fs : List FlD) (hl : ScH w0 vl L) (hf : FlH w0 vf Fs) : T3 Try.prog (fun a w => (Below w0.heap.size w0 w) ∧ Fr 25 [(0, vl), (1, vf)] a) boR No No 9 (fun a w => ∃ v5 : Value, (BoW w0 L Fs v5 L.length w) ∧ Fr 25 [(4, v5)] a) := by
  refine T3.seq (s := (sel [0] boR)) (c := (sel [1] boR)) (T3.noT (bo0 w0 vl vf L Fs hl hf)) ?_
  refine T3.seq (s := (sel [1, 0] boR)) (c := (sel [1, 1] boR)) (T3.noT (bo1 w0 vl vf L Fs hl hf)) ?_
  refine T3.seq (s := (sel [1, 1, 0] boR)) (c := (sel [1, 1, 1] boR)) (T3.noT (T3.seq (s := (sel [1, 1, 0, 0] boR)) (c := (sel [1, 1, 0, 1] boR)) (bo2 w0 vl vf L Fs hl hf) (boLloop w0 vl vf L Fs hl hf))) ?_
  refine T3.ex fun v5 => ?_
  exact T3.seq (s := (sel [1, 1, 1, 0] boR)) (c := .ret) (T3.noT (bo8 w0 vl vf L Fs hl hf v5)) (T3.ret fun a w q => ⟨v5, q⟩)

set_option maxRecDepth 100000 in
set_option maxHeartbeats 1000000 in
theorem benchOf_ref (w0 : World) (vl vf : Value) (L : List ScD) (Fs : List FlD) (hl : ScH w0 vl L) (hf : FlH w0 vf Fs) : Calls Try.prog 49 #[vl, vf] w0 fun e w' => ∃ v5 : Value, e = .returned v5 ∧ BoW w0 L Fs v5 L.length w' := by
  have hall := bo_all w0 vl vf L Fs hl hf
  go_enter Try.func49, Try.ntmps49
  refine T3.done (s := boR) hall ⟨Below.refl _ _, Fr.of _ rfl ⟨rfl, rfl, trivial⟩⟩ ?_
  rintro a w ⟨v5, hW, fr, rfl, q4, _⟩
  rw [fr_boR, show fr 4 = _ from q4]
  go_ret
  exact ⟨v5, rfl, hW⟩
noncomputable def sxR : Code := (Try.f19.body).getD .skip
set_option maxRecDepth 100000 in
theorem fr_sxR (f : Nat → Value) : frame 75 f = ⟨#[f 0, f 1, f 2, f 3, f 4, f 5, f 6, f 7, f 8, f 9, f 10, f 11, f 12, f 13, f 14, f 15, f 16, f 17, f 18, f 19, f 20, f 21, f 22, f 23, f 24, f 25, f 26, f 27, f 28, f 29, f 30, f 31, f 32, f 33, f 34, f 35, f 36, f 37, f 38, f 39, f 40, f 41, f 42, f 43, f 44, f 45, f 46, f 47, f 48, f 49, f 50, f 51, f 52, f 53, f 54, f 55, f 56, f 57, f 58, f 59, f 60, f 61, f 62, f 63, f 64, f 65, f 66, f 67, f 68, f 69, f 70, f 71, f 72, f 73, f 74], []⟩ := by rfl
set_option maxRecDepth 100000 in
set_option maxHeartbeats 1000000 in
theorem sx0 (w0 : World) (vs vl vf vk : Value) (S : List SlD) (L : List ScD) (Fs : List FlD) (K : List ByteArray) (hs : SlH w0 vs S) (hl : ScH w0 vl L) (hf : FlH w0 vf Fs) (hb : BnH w0 vk K) (g : SuG S L Fs K) : T3 Try.prog (fun a w => (Below w0.heap.size w0 w) ∧ Fr 75 [(0, vs), (1, vl), (2, vf), (3, vk)] a) (sel [0] sxR) (fun a w => (Below w0.heap.size w0 w) ∧ Fr 75 [(0, vs), (1, vl), (2, vf), (3, vk)] a) No 9 No := by
  refine T3.leaf ?_
  rintro Q JS JX JT K_ hS hK hX hE hT hR a w ⟨hW, ⟨fr, rfl, q0, q1, q2, q3, _⟩⟩
  have HW := Lib.hid hW
  obtain ⟨p1, c1, hv1⟩ := hs.r.shape
  subst hv1
  obtain ⟨p2, c2, hv2⟩ := hl.r.shape
  subst hv2
  obtain ⟨p3, c3, hv3⟩ := hf.r.shape
  subst hv3
  obtain ⟨p4, c4, hv4⟩ := hb.r.shape
  subst hv4
  clear hW
  rw [fr_sxR, show fr 0 = _ from q0, show fr 1 = _ from q1, show fr 2 = _ from q2, show fr 3 = _ from q3]
  clear q0 q1 q2 q3
  conv => arg 2; whnf
  go_wp2_with fail
  refine Met.intro (hS _ _ ?_)
  exact ⟨HW.out, Fr.of _ rfl ⟨rfl, rfl, rfl, rfl, trivial⟩⟩

set_option maxRecDepth 100000 in
set_option maxHeartbeats 1000000 in
theorem sx1 (w0 : World) (vs vl vf vk : Value) (S : List SlD) (L : List ScD) (Fs : List FlD) (K : List ByteArray) (hs : SlH w0 vs S) (hl : ScH w0 vl L) (hf : FlH w0 vf Fs) (hb : BnH w0 vk K) (g : SuG S L Fs K) : T3 Try.prog (fun a w => (Below w0.heap.size w0 w) ∧ Fr 75 [(0, vs), (1, vl), (2, vf), (3, vk)] a) (sel [1, 0] sxR) (fun a w => ∃ (v9 : Value), (SuW w0 S L Fs K v9 (0) w) ∧ Fr 75 [(0, vs), (1, vl), (2, vf), (3, vk), (9, v9)] a) No 9 No := by
  refine T3.leaf ?_
  rintro Q JS JX JT K_ hS hK hX hE hT hR a w ⟨hW, ⟨fr, rfl, q0, q1, q2, q3, _⟩⟩
  have HC := Lib.hid (clone_fl vf Fs w (hf.below hW))
  have HW := Lib.hid hW
  obtain ⟨p1, c1, hv1⟩ := hs.r.shape
  subst hv1
  obtain ⟨p2, c2, hv2⟩ := hl.r.shape
  subst hv2
  obtain ⟨p3, c3, hv3⟩ := hf.r.shape
  subst hv3
  obtain ⟨p4, c4, hv4⟩ := hb.r.shape
  subst hv4
  clear hW
  rw [fr_sxR, show fr 0 = _ from q0, show fr 1 = _ from q1, show fr 2 = _ from q2, show fr 3 = _ from q3]
  clear q0 q1 q2 q3
  conv => arg 2; whnf
  go_wp2_with fail
  refine HC.out.mono ?_
  rintro e w1 ⟨v9, rfl, ho, hb1⟩
  have HR := Lib.hid (show SuW w0 S L Fs K v9 0 w1 from ⟨HW.out.trans (hb1.mono HW.out.size), owns_mono ho HW.out.size⟩)
  obtain ⟨p5, c5, hv5⟩ := (Row.of_owns ho).shape
  subst hv5
  clear ho hb1
  go_wp2_with fail
  refine Met.intro (hS _ _ ?_)
  exact ⟨_, HR.out, Fr.of _ rfl ⟨rfl, rfl, rfl, rfl, rfl, trivial⟩⟩

set_option maxRecDepth 100000 in
set_option maxHeartbeats 1000000 in
theorem sx2 (w0 : World) (vs vl vf vk : Value) (S : List SlD) (L : List ScD) (Fs : List FlD) (K : List ByteArray) (hs : SlH w0 vs S) (hl : ScH w0 vl L) (hf : FlH w0 vf Fs) (hb : BnH w0 vk K) (g : SuG S L Fs K) (v9 : Value) : T3 Try.prog (fun a w => (SuW w0 S L Fs K v9 (0) w) ∧ Fr 75 [(0, vs), (1, vl), (2, vf), (3, vk), (9, v9)] a) (sel [1, 1, 0, 0] sxR) (fun a w => (0 ≤ (0 : Int) ∧ (0 : Int) ≤ Fs.length) ∧ (SuW w0 S L Fs K v9 ((0 : Int).toNat) w) ∧ Fr 75 [(0, vs), (1, vl), (2, vf), (3, vk), (9, v9), (17, v9), (18, .int .i64 Fs.length), (19, .int .i64 0)] a) No 9 No := by
  refine T3.leaf ?_
  rintro Q JS JX JT K_ hS hK hX hE hT hR a w ⟨hW, ⟨fr, rfl, q0, q1, q2, q3, q9, _⟩⟩
  have hfn := hf.n
  obtain ⟨p5, c5, hv5⟩ := (Row.of_owns hW.own).shape
  subst hv5
  have HW := Lib.hid hW
  obtain ⟨p1, c1, hv1⟩ := hs.r.shape
  subst hv1
  obtain ⟨p2, c2, hv2⟩ := hl.r.shape
  subst hv2
  obtain ⟨p3, c3, hv3⟩ := hf.r.shape
  subst hv3
  obtain ⟨p4, c4, hv4⟩ := hb.r.shape
  subst hv4
  clear hW
  rw [fr_sxR, show fr 0 = _ from q0, show fr 1 = _ from q1, show fr 2 = _ from q2, show fr 3 = _ from q3, show fr 9 = _ from q9]
  clear q0 q1 q2 q3 q9
  conv => arg 2; whnf
  go_wp2_with fail
  refine Met.intro (hS _ _ ?_)
  exact ⟨⟨by omega, by omega⟩, HW.out, Fr.of _ rfl ⟨rfl, rfl, rfl, rfl, rfl, rfl, rfl, rfl, trivial⟩⟩

set_option maxRecDepth 100000 in
set_option maxHeartbeats 1000000 in
theorem sx4 (w0 : World) (vs vl vf vk : Value) (S : List SlD) (L : List ScD) (Fs : List FlD) (K : List ByteArray) (hs : SlH w0 vs S) (hl : ScH w0 vl L) (hf : FlH w0 vf Fs) (hb : BnH w0 vk K) (g : SuG S L Fs K) (v9 : Value) (k : Int) : T3 Try.prog (fun a w => (0 ≤ k ∧ k < Fs.length) ∧ (SuW w0 S L Fs K v9 ((k : Int).toNat) w) ∧ Fr 75 [(0, vs), (1, vl), (2, vf), (3, vk), (9, v9), (17, v9), (18, .int .i64 Fs.length), (19, .int .i64 k)] a) (sel [1, 1, 0, 1, 4, 4, 1, 1, 0, 4, 0] sxR) (fun a w => (0 ≤ k ∧ k < Fs.length) ∧ (SuW w0 S L Fs K v9 ((k : Int).toNat) w) ∧ Fr 75 [(0, vs), (1, vl), (2, vf), (3, vk), (9, v9), (10, .int .i64 k), (17, v9), (18, .int .i64 Fs.length), (19, .int .i64 k)] a) No 9 No := by
  refine T3.leaf ?_
  rintro Q JS JX JT K_ hS hK hX hE hT hR a w ⟨hpre, hW, ⟨fr, rfl, q0, q1, q2, q3, q9, q17, q18, q19, _⟩⟩
  have hpp := Lib.hid hpre
  have HW := Lib.hid hW
  obtain ⟨p5, c5, hv5⟩ := (Row.of_owns hW.own).shape
  subst hv5
  obtain ⟨p1, c1, hv1⟩ := hs.r.shape
  subst hv1
  obtain ⟨p2, c2, hv2⟩ := hl.r.shape
  subst hv2
  obtain ⟨p3, c3, hv3⟩ := hf.r.shape
  subst hv3
  obtain ⟨p4, c4, hv4⟩ := hb.r.shape
  subst hv4
  clear hW hs hl hf hb
  rw [fr_sxR, show fr 0 = _ from q0, show fr 1 = _ from q1, show fr 2 = _ from q2, show fr 3 = _ from q3, show fr 9 = _ from q9, show fr 17 = _ from q17, show fr 18 = _ from q18, show fr 19 = _ from q19]
  clear q0 q1 q2 q3 q9 q17 q18 q19
  conv => arg 2; whnf
  go_wp2_with fail
  refine Met.intro (hS _ _ ?_)
  exact ⟨hpp.out, HW.out, Fr.of _ rfl ⟨rfl, rfl, rfl, rfl, rfl, rfl, rfl, rfl, rfl, trivial⟩⟩

set_option maxRecDepth 100000 in
set_option maxHeartbeats 1000000 in
theorem sx5 (w0 : World) (vs vl vf vk : Value) (S : List SlD) (L : List ScD) (Fs : List FlD) (K : List ByteArray) (hs : SlH w0 vs S) (hl : ScH w0 vl L) (hf : FlH w0 vf Fs) (hb : BnH w0 vk K) (g : SuG S L Fs K) (v9 : Value) (k : Int) : T3 Try.prog (fun a w => (0 ≤ k ∧ k < Fs.length) ∧ (SuW w0 S L Fs K v9 ((k : Int).toNat) w) ∧ Fr 75 [(0, vs), (1, vl), (2, vf), (3, vk), (9, v9), (10, .int .i64 k), (17, v9), (18, .int .i64 Fs.length), (19, .int .i64 k)] a) (sel [1, 1, 0, 1, 4, 4, 1, 1, 0, 4, 1, 0, 0] sxR) (fun a w => (0 ≤ k ∧ k < Fs.length) ∧ (SuW w0 S L Fs K v9 ((k : Int).toNat) w) ∧ Fr 75 [(0, vs), (1, vl), (2, vf), (3, vk), (9, v9), (10, .int .i64 k), (11, .int .i64 (scIdx L (geta Fs k).pl)), (17, v9), (18, .int .i64 Fs.length), (19, .int .i64 k)] a) No 9 No := by
  refine T3.leaf ?_
  rintro Q JS JX JT K_ hS hK hX hE hT hR a w ⟨hpre, hW, ⟨fr, rfl, q0, q1, q2, q3, q9, q10, q17, q18, q19, _⟩⟩
  have hpp := Lib.hid hpre
  obtain ⟨hk0, hk1⟩ := hpre
  have hfn := hf.n
  have HW := Lib.hid hW
  have HC := Lib.hid (scorerAt_ref vl L (geta Fs k).pl w (hl.below hW.bel))
  obtain ⟨g12, c12, hv12, _, _, hn12, hm12⟩ := owns_shape hW.own (by omega)
  subst hv12
  simp only [maxLen] at hm12
  have t0 : w.cell? ⟨g12, k.toNat * 2 + 1, none⟩ = some (.string (geta Fs k).pl) := by
    obtain ⟨bz, off, hp, _, _, hcell⟩ := Row.nonnil ((Row.of_owns hW.own).mono (Nat.zero_le _)) (by omega)
    simp only [Option.some.injEq, Addr.mk.injEq] at hp
    obtain ⟨rfl, rfl, _⟩ := hp
    have := Row.elAt encFl_length hcell hk0 (by rw [subK_length]; omega) 1 _ (by decide) rfl
    rw [Nat.zero_add] at this
    have e := subK_at S L Fs K k.toNat
    rw [Int.toNat_of_nonneg hk0] at e
    rw [e] at this
    exact this
  obtain ⟨p1, c1, hv1⟩ := hs.r.shape
  subst hv1
  obtain ⟨p2, c2, hv2⟩ := hl.r.shape
  subst hv2
  obtain ⟨p3, c3, hv3⟩ := hf.r.shape
  subst hv3
  obtain ⟨p4, c4, hv4⟩ := hb.r.shape
  subst hv4
  clear hW hs hl hf hb
  generalize scIdx L (geta Fs k).pl = ix at *
  generalize (geta Fs k).pl = x at *
  rw [fr_sxR, show fr 0 = _ from q0, show fr 1 = _ from q1, show fr 2 = _ from q2, show fr 3 = _ from q3, show fr 9 = _ from q9, show fr 10 = _ from q10, show fr 17 = _ from q17, show fr 18 = _ from q18, show fr 19 = _ from q19]
  clear q0 q1 q2 q3 q9 q10 q17 q18 q19
  conv => arg 2; whnf
  go_wp2_with fail
  refine HC.out.mono ?_
  rintro e w1 ⟨rfl, hb1⟩
  have HR := Lib.hid (HW.out.below hb1)
  clear hb1
  go_wp2_with fail
  refine Met.intro (hS _ _ ?_)
  exact ⟨hpp.out, HR.out, Fr.of _ rfl ⟨rfl, rfl, rfl, rfl, rfl, rfl, rfl, rfl, rfl, rfl, trivial⟩⟩

set_option maxRecDepth 100000 in
set_option maxHeartbeats 1000000 in
theorem sx6 (w0 : World) (vs vl vf vk : Value) (S : List SlD) (L : List ScD) (Fs : List FlD) (K : List ByteArray) (hs : SlH w0 vs S) (hl : ScH w0 vl L) (hf : FlH w0 vf Fs) (hb : BnH w0 vk K) (g : SuG S L Fs K) (v9 : Value) (k : Int) : T3 Try.prog (fun a w => (0 ≤ k ∧ k < Fs.length) ∧ (SuW w0 S L Fs K v9 ((k : Int).toNat) w) ∧ Fr 75 [(0, vs), (1, vl), (2, vf), (3, vk), (9, v9), (10, .int .i64 k), (11, .int .i64 (scIdx L (geta Fs k).pl)), (17, v9), (18, .int .i64 Fs.length), (19, .int .i64 k)] a) (sel [1, 1, 0, 1, 4, 4, 1, 1, 0, 4, 1, 0, 1, 0] sxR) (fun a w => ∃ q, Fr 75 ((37, .bool q) :: [(0, vs), (1, vl), (2, vf), (3, vk), (9, v9), (10, .int .i64 k), (11, .int .i64 (scIdx L (geta Fs k).pl)), (17, v9), (18, .int .i64 Fs.length), (19, .int .i64 k)]) a ∧ (((0 ≤ k ∧ k < Fs.length) ∧ q = stays L (geta Fs k).pl) ∧ SuW w0 S L Fs K v9 ((k : Int).toNat) w)) No 9 No := by
  refine T3.leaf ?_
  rintro Q JS JX JT K_ hS hK hX hE hT hR a w ⟨hpre, hW, ⟨fr, rfl, q0, q1, q2, q3, q9, q10, q11, q17, q18, q19, _⟩⟩
  have hpp := Lib.hid hpre
  obtain ⟨hk0, hk1⟩ := hpre
  have HW := Lib.hid hW
  have hR := (hl.below hW.bel).r
  by_cases hix : scIdx L (geta Fs k).pl < 0
  · have HX := Lib.hid (show false = stays L (geta Fs k).pl by unfold stays; rw [show decide (0 ≤ scIdx L (geta Fs k).pl) = false by simp; omega]; rfl)
    obtain ⟨p5, c5, hv5⟩ := (Row.of_owns hW.own).shape
    subst hv5
    obtain ⟨p1, c1, hv1⟩ := hs.r.shape
    subst hv1
    obtain ⟨p2, c2, hv2⟩ := hl.r.shape
    subst hv2
    obtain ⟨p3, c3, hv3⟩ := hf.r.shape
    subst hv3
    obtain ⟨p4, c4, hv4⟩ := hb.r.shape
    subst hv4
    have hixb : decide (0 ≤ scIdx L (geta Fs k).pl) = false := by simp; omega
    clear hW hR hs hl hf hb
    generalize scIdx L (geta Fs k).pl = ix at *
    rw [fr_sxR, show fr 0 = _ from q0, show fr 1 = _ from q1, show fr 2 = _ from q2, show fr 3 = _ from q3, show fr 9 = _ from q9, show fr 10 = _ from q10, show fr 11 = _ from q11, show fr 17 = _ from q17, show fr 18 = _ from q18, show fr 19 = _ from q19]
    clear q0 q1 q2 q3 q9 q10 q11 q17 q18 q19
    conv => arg 2; whnf
    go_wp2_with fail
    refine Met.intro (hS _ _ ?_)
    exact ⟨_, Fr.of _ rfl ⟨rfl, rfl, rfl, rfl, rfl, rfl, rfl, rfl, rfl, rfl, rfl, trivial⟩, ⟨hpp.out, HX.out⟩, HW.out⟩
  · have hiL := sc_mem hix
    have hi0 : 0 ≤ scIdx L (geta Fs k).pl := by omega
    have HX := Lib.hid (show (geta L (scIdx L (geta Fs k).pl)).pd = stays L (geta Fs k).pl by unfold stays; rw [show decide (0 ≤ scIdx L (geta Fs k).pl) = true by simp [hi0]]; rfl)
    obtain ⟨p5, c5, hv5⟩ := (Row.of_owns hW.own).shape
    subst hv5
    obtain ⟨p1, c1, hv1⟩ := hs.r.shape
    subst hv1
    obtain ⟨p2, c2, hv2⟩ := hl.r.shape
    subst hv2
    obtain ⟨p3, c3, hv3⟩ := hf.r.shape
    subst hv3
    obtain ⟨p4, c4, hv4⟩ := hb.r.shape
    subst hv4
    obtain ⟨b2, o2, rfl, hn2, hm2, hcl⟩ := Row.nonnil hR (by omega)
    have u4 := Row.elAt encSc_length hcl hi0 hiL 4 _ (by decide) rfl
    clear hW hR hs hl hf hb hcl hix
    generalize hixx : scIdx L (geta Fs k).pl = ix at *
    generalize (geta L ix).pd = pd at *
    rw [fr_sxR, show fr 0 = _ from q0, show fr 1 = _ from q1, show fr 2 = _ from q2, show fr 3 = _ from q3, show fr 9 = _ from q9, show fr 10 = _ from q10, show fr 11 = _ from q11, show fr 17 = _ from q17, show fr 18 = _ from q18, show fr 19 = _ from q19]
    clear q0 q1 q2 q3 q9 q10 q11 q17 q18 q19
    conv => arg 2; whnf
    go_wp2_with fail
    refine Met.intro (hS _ _ ?_)
    exact ⟨_, Fr.of _ rfl ⟨rfl, rfl, rfl, rfl, rfl, rfl, rfl, rfl, rfl, rfl, rfl, trivial⟩, ⟨hpp.out, HX.out⟩, HW.out⟩

set_option maxRecDepth 100000 in
set_option maxHeartbeats 1000000 in
theorem sx7 (w0 : World) (vs vl vf vk : Value) (S : List SlD) (L : List ScD) (Fs : List FlD) (K : List ByteArray) (hs : SlH w0 vs S) (hl : ScH w0 vl L) (hf : FlH w0 vf Fs) (hb : BnH w0 vk K) (g : SuG S L Fs K) (v9 : Value) (k : Int) (hst : stays L (geta Fs k).pl = false) (hk : 0 ≤ k ∧ k < Fs.length) : T3 Try.prog (fun a w => (SuW w0 S L Fs K v9 ((k : Int).toNat) w) ∧ Fr 75 [(0, vs), (1, vl), (2, vf), (3, vk), (9, v9), (10, .int .i64 k), (17, v9), (18, .int .i64 Fs.length), (19, .int .i64 k)] a) (sel [1, 1, 0, 1, 4, 4, 1, 1, 0, 4, 1, 1, 0] sxR) (fun a w => (SuW w0 S L Fs K v9 (k.toNat) w) ∧ Fr 75 [(0, vs), (1, vl), (2, vf), (3, vk), (9, v9), (10, .int .i64 k), (17, v9), (18, .int .i64 Fs.length), (19, .int .i64 k), (38, vk), (39, .int .i64 K.length), (40, .int .i64 0)] a) No 9 No := by
  refine T3.leaf ?_
  rintro Q JS JX JT K_ hS hK hX hE hT hR a w ⟨hW, ⟨fr, rfl, q0, q1, q2, q3, q9, q10, q17, q18, q19, _⟩⟩
  have HW := Lib.hid hW
  have hbn := hb.n
  obtain ⟨p5, c5, hv5⟩ := (Row.of_owns hW.own).shape
  subst hv5
  obtain ⟨p1, c1, hv1⟩ := hs.r.shape
  subst hv1
  obtain ⟨p2, c2, hv2⟩ := hl.r.shape
  subst hv2
  obtain ⟨p3, c3, hv3⟩ := hf.r.shape
  subst hv3
  obtain ⟨p4, c4, hv4⟩ := hb.r.shape
  subst hv4
  clear hW hs hl hf hb
  rw [fr_sxR, show fr 0 = _ from q0, show fr 1 = _ from q1, show fr 2 = _ from q2, show fr 3 = _ from q3, show fr 9 = _ from q9, show fr 10 = _ from q10, show fr 17 = _ from q17, show fr 18 = _ from q18, show fr 19 = _ from q19]
  clear q0 q1 q2 q3 q9 q10 q17 q18 q19
  conv => arg 2; whnf
  go_wp2_with fail
  refine Met.intro (hS _ _ ?_)
  exact ⟨HW.out, Fr.of _ rfl ⟨rfl, rfl, rfl, rfl, rfl, rfl, rfl, rfl, rfl, rfl, rfl, rfl, trivial⟩⟩

set_option maxRecDepth 100000 in
set_option maxHeartbeats 1000000 in
theorem sx8 (w0 : World) (vs vl vf vk : Value) (S : List SlD) (L : List ScD) (Fs : List FlD) (K : List ByteArray) (hs : SlH w0 vs S) (hl : ScH w0 vl L) (hf : FlH w0 vf Fs) (hb : BnH w0 vk K) (g : SuG S L Fs K) (v9 : Value) (k : Int) (hst : stays L (geta Fs k).pl = false) (hk : 0 ≤ k ∧ k < Fs.length) (j : Int) (hj : 0 ≤ j ∧ j ≤ K.length) : T3 Try.prog (fun a w => (SuW w0 S L Fs K v9 (k.toNat) w) ∧ Fr 75 [(0, vs), (1, vl), (2, vf), (3, vk), (9, v9), (10, .int .i64 k), (17, v9), (18, .int .i64 Fs.length), (19, .int .i64 k), (38, vk), (39, .int .i64 K.length), (40, .int .i64 j)] a) (sel [1, 1, 0, 1, 4, 4, 1, 1, 0, 4, 1, 1, 1, 4, 4, 0] sxR) (fun a w => ∃ q, Fr 75 ((41, .bool q) :: [(0, vs), (1, vl), (2, vf), (3, vk), (9, v9), (10, .int .i64 k), (17, v9), (18, .int .i64 Fs.length), (19, .int .i64 k), (38, vk), (39, .int .i64 K.length), (40, .int .i64 j)]) a ∧ (q = decide (j < (K.length : Int)) ∧ SuW w0 S L Fs K v9 (k.toNat) w)) No 9 No := by
  refine T3.leaf ?_
  rintro Q JS JX JT K_ hS hK hX hE hT hR a w ⟨hW, ⟨fr, rfl, q0, q1, q2, q3, q9, q10, q17, q18, q19, q38, q39, q40, _⟩⟩
  have HW := Lib.hid hW
  obtain ⟨p5, c5, hv5⟩ := (Row.of_owns hW.own).shape
  subst hv5
  obtain ⟨p1, c1, hv1⟩ := hs.r.shape
  subst hv1
  obtain ⟨p2, c2, hv2⟩ := hl.r.shape
  subst hv2
  obtain ⟨p3, c3, hv3⟩ := hf.r.shape
  subst hv3
  obtain ⟨p4, c4, hv4⟩ := hb.r.shape
  subst hv4
  clear hW hs hl hf hb
  rw [fr_sxR, show fr 0 = _ from q0, show fr 1 = _ from q1, show fr 2 = _ from q2, show fr 3 = _ from q3, show fr 9 = _ from q9, show fr 10 = _ from q10, show fr 17 = _ from q17, show fr 18 = _ from q18, show fr 19 = _ from q19, show fr 38 = _ from q38, show fr 39 = _ from q39, show fr 40 = _ from q40]
  clear q0 q1 q2 q3 q9 q10 q17 q18 q19 q38 q39 q40
  conv => arg 2; whnf
  go_wp2_with fail
  refine Met.intro (hS _ _ ?_)
  exact ⟨_, Fr.of _ rfl ⟨rfl, rfl, rfl, rfl, rfl, rfl, rfl, rfl, rfl, rfl, rfl, rfl, rfl, trivial⟩, rfl, HW.out⟩

set_option maxRecDepth 100000 in
set_option maxHeartbeats 1000000 in
theorem sx9 (w0 : World) (vs vl vf vk : Value) (S : List SlD) (L : List ScD) (Fs : List FlD) (K : List ByteArray) (hs : SlH w0 vs S) (hl : ScH w0 vl L) (hf : FlH w0 vf Fs) (hb : BnH w0 vk K) (g : SuG S L Fs K) (v9 : Value) (k : Int) (hst : stays L (geta Fs k).pl = false) (hk : 0 ≤ k ∧ k < Fs.length) (j : Int) (hj : 0 ≤ j ∧ j < K.length) : T3 Try.prog (fun a w => (SuW w0 S L Fs K v9 (k.toNat) w) ∧ Fr 75 [(0, vs), (1, vl), (2, vf), (3, vk), (9, v9), (10, .int .i64 k), (17, v9), (18, .int .i64 Fs.length), (19, .int .i64 k), (38, vk), (39, .int .i64 K.length), (40, .int .i64 j)] a) (sel [1, 1, 0, 1, 4, 4, 1, 1, 0, 4, 1, 1, 1, 4, 4, 1, 1, 0, 4, 0] sxR) (fun a w => (SuW w0 S L Fs K v9 (k.toNat) w) ∧ Fr 75 [(0, vs), (1, vl), (2, vf), (3, vk), (9, v9), (10, .int .i64 k), (13, .string (geta K j)), (17, v9), (18, .int .i64 Fs.length), (19, .int .i64 k), (38, vk), (39, .int .i64 K.length), (40, .int .i64 j)] a) No 9 No := by
  refine T3.leaf ?_
  rintro Q JS JX JT K_ hS hK hX hE hT hR a w ⟨hW, ⟨fr, rfl, q0, q1, q2, q3, q9, q10, q17, q18, q19, q38, q39, q40, _⟩⟩
  obtain ⟨hj0, hj1⟩ := hj
  have HW := Lib.hid hW
  have hbn := hb.n
  have hR := (hb.below hW.bel).r
  obtain ⟨p5, c5, hv5⟩ := (Row.of_owns hW.own).shape
  subst hv5
  obtain ⟨p1, c1, hv1⟩ := hs.r.shape
  subst hv1
  obtain ⟨p2, c2, hv2⟩ := hl.r.shape
  subst hv2
  obtain ⟨p3, c3, hv3⟩ := hf.r.shape
  subst hv3
  obtain ⟨p4, c4, hv4⟩ := hb.r.shape
  subst hv4
  obtain ⟨bz, off, rfl, hnc, hcm, hcell⟩ := Row.nonnil hR (by omega)
  have t0 := Row.elAt encSt_length hcell hj0 hj1 0 _ (by decide) rfl
  rw [Nat.mul_one, Nat.add_zero] at t0
  clear hcell hR hW hs hl hf hb
  generalize geta K j = x at *
  rw [fr_sxR, show fr 0 = _ from q0, show fr 1 = _ from q1, show fr 2 = _ from q2, show fr 3 = _ from q3, show fr 9 = _ from q9, show fr 10 = _ from q10, show fr 17 = _ from q17, show fr 18 = _ from q18, show fr 19 = _ from q19, show fr 38 = _ from q38, show fr 39 = _ from q39, show fr 40 = _ from q40]
  clear q0 q1 q2 q3 q9 q10 q17 q18 q19 q38 q39 q40
  conv => arg 2; whnf
  go_wp2_with fail
  refine Met.intro (hS _ _ ?_)
  exact ⟨HW.out, Fr.of _ rfl ⟨rfl, rfl, rfl, rfl, rfl, rfl, rfl, rfl, rfl, rfl, rfl, rfl, rfl, trivial⟩⟩

set_option maxRecDepth 100000 in
set_option maxHeartbeats 1000000 in
theorem sx10 (w0 : World) (vs vl vf vk : Value) (S : List SlD) (L : List ScD) (Fs : List FlD) (K : List ByteArray) (hs : SlH w0 vs S) (hl : ScH w0 vl L) (hf : FlH w0 vf Fs) (hb : BnH w0 vk K) (g : SuG S L Fs K) (v9 : Value) (k : Int) (hst : stays L (geta Fs k).pl = false) (hk : 0 ≤ k ∧ k < Fs.length) (j : Int) (hj : 0 ≤ j ∧ j < K.length) : T3 Try.prog (fun a w => (SuW w0 S L Fs K v9 (k.toNat) w) ∧ Fr 75 [(0, vs), (1, vl), (2, vf), (3, vk), (9, v9), (10, .int .i64 k), (13, .string (geta K j)), (17, v9), (18, .int .i64 Fs.length), (19, .int .i64 k), (38, vk), (39, .int .i64 K.length), (40, .int .i64 j)] a) (sel [1, 1, 0, 1, 4, 4, 1, 1, 0, 4, 1, 1, 1, 4, 4, 1, 1, 0, 4, 1, 0] sxR) (fun a w => ∃ (g14 : Nat), (SuW w0 S L Fs K v9 k.toNat w ∧ ScB w g14 (geta L (scIdx L (geta K j)))) ∧ Fr 75 [(0, vs), (1, vl), (2, vf), (3, vk), (9, v9), (10, .int .i64 k), (13, .string (geta K j)), (14, .pointer (some ⟨g14, 0, none⟩)), (17, v9), (18, .int .i64 Fs.length), (19, .int .i64 k), (38, vk), (39, .int .i64 K.length), (40, .int .i64 j)] a) No 9 No := by
  refine T3.leaf ?_
  rintro Q JS JX JT K_ hS hK hX hE hT hR a w ⟨hW, ⟨fr, rfl, q0, q1, q2, q3, q9, q10, q13, q17, q18, q19, q38, q39, q40, _⟩⟩
  have HW := Lib.hid hW
  have hix := g.bench hj.1 hj.2
  have hiL := sc_mem hix
  have hi0 : 0 ≤ scIdx L (geta K j) := by omega
  have HC := Lib.hid (scorerAt_ref vl L (geta K j) w (hl.below hW.bel))
  have HR0 := Lib.hid (fun w' (b : Below w.heap.size w w') => ((hl.below hW.bel).below b).r)
  obtain ⟨qq, dd, hq⟩ := (hl.p _ (geta_mem hi0 hiL)).r.shape
  have HB := Lib.hid (fun w' => ScB.new w' (geta L (scIdx L (geta K j))) 63)
  obtain ⟨p5, c5, hv5⟩ := (Row.of_owns hW.own).shape
  subst hv5
  obtain ⟨p1, c1, hv1⟩ := hs.r.shape
  subst hv1
  obtain ⟨p2, c2, hv2⟩ := hl.r.shape
  subst hv2
  obtain ⟨p3, c3, hv3⟩ := hf.r.shape
  subst hv3
  obtain ⟨p4, c4, hv4⟩ := hb.r.shape
  subst hv4
  clear hW hs hl hf hb hix g
  generalize hixx : scIdx L (geta K j) = ix at *
  generalize geta K j = x at *
  rw [fr_sxR, show fr 0 = _ from q0, show fr 1 = _ from q1, show fr 2 = _ from q2, show fr 3 = _ from q3, show fr 9 = _ from q9, show fr 10 = _ from q10, show fr 13 = _ from q13, show fr 17 = _ from q17, show fr 18 = _ from q18, show fr 19 = _ from q19, show fr 38 = _ from q38, show fr 39 = _ from q39, show fr 40 = _ from q40]
  clear q0 q1 q2 q3 q9 q10 q13 q17 q18 q19 q38 q39 q40
  conv => arg 2; whnf
  go_wp2_with fail
  refine HC.out.mono ?_
  rintro e w1 ⟨rfl, hb1⟩
  have HW1 := Lib.hid (HW.out.below hb1)
  have hRl := HR0.out w1 hb1
  obtain ⟨b2, o2, rfl, hn2, hm2, hcl⟩ := Row.nonnil hRl (by omega)
  have t0 := Row.elAt encSc_length hcl hi0 hiL 0 _ (by decide) rfl
  have t1 := Row.elAt encSc_length hcl hi0 hiL 1 _ (by decide) rfl
  have t2 := Row.elAt encSc_length hcl hi0 hiL 2 _ (by decide) rfl
  have t3 := Row.elAt encSc_length hcl hi0 hiL 3 _ (by decide) rfl
  have t4 := Row.elAt encSc_length hcl hi0 hiL 4 _ (by decide) rfl
  rw [Nat.add_zero] at t0
  clear hb1 hRl hcl
  have HA := Lib.hid (fun o => (Below.refl w1.heap.size w1).alloc (Nat.le_refl _) o)
  generalize geta L ix = y at *
  obtain ⟨xk, xv, xps, xn, xd, xp⟩ := y
  simp only at hq t0 t1 t2 t3 t4
  subst hq
  go_wp2_with fail
  refine Met.intro (hS _ _ ?_)
  exact ⟨_, ⟨HW1.out.below (HA.out _), HB.out _⟩, Fr.of _ rfl ⟨rfl, rfl, rfl, rfl, rfl, rfl, rfl, rfl, rfl, rfl, rfl, rfl, rfl, rfl, trivial⟩⟩

set_option maxRecDepth 100000 in
set_option maxHeartbeats 1000000 in
theorem sx11 (w0 : World) (vs vl vf vk : Value) (S : List SlD) (L : List ScD) (Fs : List FlD) (K : List ByteArray) (hs : SlH w0 vs S) (hl : ScH w0 vl L) (hf : FlH w0 vf Fs) (hb : BnH w0 vk K) (g : SuG S L Fs K) (v9 : Value) (k : Int) (hst : stays L (geta Fs k).pl = false) (hk : 0 ≤ k ∧ k < Fs.length) (j : Int) (hj : 0 ≤ j ∧ j < K.length) (g14 : Nat) : T3 Try.prog (fun a w => (SuW w0 S L Fs K v9 k.toNat w ∧ ScB w g14 (geta L (scIdx L (geta K j)))) ∧ Fr 75 [(0, vs), (1, vl), (2, vf), (3, vk), (9, v9), (10, .int .i64 k), (13, .string (geta K j)), (14, .pointer (some ⟨g14, 0, none⟩)), (17, v9), (18, .int .i64 Fs.length), (19, .int .i64 k), (38, vk), (39, .int .i64 K.length), (40, .int .i64 j)] a) (sel [1, 1, 0, 1, 4, 4, 1, 1, 0, 4, 1, 1, 1, 4, 4, 1, 1, 0, 4, 1, 1, 0] sxR) (fun a w => ∃ q, Fr 75 ((66, .bool q) :: [(0, vs), (1, vl), (2, vf), (3, vk), (9, v9), (10, .int .i64 k), (13, .string (geta K j)), (14, .pointer (some ⟨g14, 0, none⟩)), (17, v9), (18, .int .i64 Fs.length), (19, .int .i64 k), (38, vk), (39, .int .i64 K.length), (40, .int .i64 j)]) a ∧ ((q = okSub S L (subK S L Fs K k.toNat) k.toNat (geta K j)) ∧ SuW w0 S L Fs K v9 k.toNat w ∧ ScB w g14 (geta L (scIdx L (geta K j))))) No 9 No := by
  refine T3.leafN ?_
  rintro JS hS a w ⟨hW, ⟨fr, rfl, q0, q1, q2, q3, q9, q10, q13, q14, q17, q18, q19, q38, q39, q40, _⟩⟩
  have hks : k < S.length := by have := g.len; omega
  have hix := g.bench hj.1 hj.2
  have hiL := sc_mem hix
  have hi0 : 0 ≤ scIdx L (geta K j) := by omega
  have hbd : Below w.heap.size w w.drew := below_drewN (Below.refl _ _) 1
  have HW1 := Lib.hid (show SuW w0 S L Fs K v9 k.toNat w.drew ∧ ScB w.drew g14 (geta L (scIdx L (geta K j))) from ⟨hW.1.below hbd, hW.2.below hbd⟩)
  have hbe := HW1.out.1.bel
  have hRs := (hs.below hbe).r
  have hpl := (hl.below hbe).p _ (geta_mem hi0 hiL)
  have hps := (hs.below hbe).p _ (geta_mem hk.1 hks)
  have u0 := hW.2.c0
  have u1 := hW.2.c1
  have u2 := hW.2.c2
  have u3 := hW.2.c3
  have u4 := hW.2.c4
  have HI := Lib.hid (fun w' (b : Below w.drew.heap.size w.drew w') => benchOf_ref w' vl v9 L (subK S L Fs K k.toNat) ((hl.below hbe).below b) ⟨(HW1.out.1.below b).fl, subK_z hf.z hb.z k.toNat, by rw [subK_length]; exact hf.n⟩)
  have HH := Lib.hid (bench_has (F := subK S L Fs K k.toNat) hix)
  have HN := Lib.hid (benchK_le L (subK S L Fs K k.toNat) L.length)
  have HE := Lib.hid (show ((geta L (scIdx L (geta K j))).pd && (commonB (geta L (scIdx L (geta K j))).ps (geta S k).ps && !isInB (subK S L Fs K k.toNat) (geta K j))) = okSub S L (subK S L Fs K k.toNat) k.toNat (geta K j) by unfold okSub; rw [Int.toNat_of_nonneg hk.1])
  have hk0 := hk.1
  obtain ⟨p5, c5, hv5⟩ := (Row.of_owns hW.1.own).shape
  subst hv5
  obtain ⟨p1, c1, hv1⟩ := hs.r.shape
  subst hv1
  obtain ⟨p2, c2, hv2⟩ := hl.r.shape
  subst hv2
  obtain ⟨p3, c3, hv3⟩ := hf.r.shape
  subst hv3
  obtain ⟨p4, c4, hv4⟩ := hb.r.shape
  subst hv4
  obtain ⟨b1, o1, rfl, hn1, hm1, hcs⟩ := Row.nonnil hRs (by omega)
  have t0 := Row.elAt encSl_length hcs hk0 hks 0 _ (by decide) rfl
  have t1 := Row.elAt encSl_length hcs hk0 hks 1 _ (by decide) rfl
  rw [Nat.add_zero] at t0
  have HC := Lib.hid (fit_ref _ _ w.drew hps hpl)
  have hcc := commonB_comm (geta S k).ps (geta L (scIdx L (geta K j))).ps
  rw [hcc] at HC
  obtain ⟨aa1, d1, hq1⟩ := hpl.r.shape
  obtain ⟨aa2, d2, hq2⟩ := hps.r.shape
  clear hcs hRs hs hl hf hb hW hbd hbe hpl hps hix hcc g hiL hi0
  generalize hcq : commonB (geta L (scIdx L (geta K j))).ps (geta S k).ps = cq at *
  generalize hin : isInB (subK S L Fs K k.toNat) (geta K j) = iq at *
  generalize hyy : (geta L (scIdx L (geta K j))) = y at *
  generalize geta S k = x at *
  generalize hxx : geta K j = xj at *
  obtain ⟨xk, xv, xps⟩ := x
  obtain ⟨yk, yv, yps, yn, yd, yp⟩ := y
  simp only at hq1 hq2 t0 t1 u0 u1 u2 u3 u4 HC HE
  subst hq1
  subst hq2
  cases yp
  · rw [fr_sxR, show fr 0 = _ from q0, show fr 1 = _ from q1, show fr 2 = _ from q2, show fr 3 = _ from q3, show fr 9 = _ from q9, show fr 10 = _ from q10, show fr 13 = _ from q13, show fr 14 = _ from q14, show fr 17 = _ from q17, show fr 18 = _ from q18, show fr 19 = _ from q19, show fr 38 = _ from q38, show fr 39 = _ from q39, show fr 40 = _ from q40]
    clear q0 q1 q2 q3 q9 q10 q13 q14 q17 q18 q19 q38 q39 q40
    conv => arg 2; whnf
    refine wp_region_mix (none) [(true, 0), (true, 1), (true, 2), (true, 3), (true, 4), (true, 7), (true, 5), (true, 6), (false, 8), (true, 9), (true, 10), (true, 11), (true, 12), (true, 14), (false, 13), (false, 15), (true, 16)] (by kernel_rfl) (by kernel_rfl) (by intro c a d v w h; cases d <;> exact h) ?_
    simp only [pickFlat, List.filterMap_cons, List.filterMap_nil, List.getElem?_cons_succ, List.getElem?_cons_zero, Option.map_some]
    have A0 := wof_at (w₁ := w.drew) (row := none) (a := ⟨b1, o1 + k.toNat * 2, none⟩) t0 (by simp)
    have A1 := wof_at (w₁ := w.drew) (row := none) (a := ⟨b1, o1 + k.toNat * 2 + 1, none⟩) t1 (by simp)
    have B0 := wof_at (w₁ := w.drew) (row := none) (a := ⟨g14, 0, none⟩) u0 (by simp)
    have B1 := wof_at (w₁ := w.drew) (row := none) (a := ⟨g14, 1, none⟩) u1 (by simp)
    have B2 := wof_at (w₁ := w.drew) (row := none) (a := ⟨g14, 2, none⟩) u2 (by simp)
    have B3 := wof_at (w₁ := w.drew) (row := none) (a := ⟨g14, 3, none⟩) u3 (by simp)
    have B4 := wof_at (w₁ := w.drew) (row := none) (a := ⟨g14, 4, none⟩) u4 (by simp)
    refine flat_hide (fun W hH hC hN hE => ?_)
    iterate 8 (refine hH.out _ _ _ _ (fun K hK => ?_); go_simp; refine hK _ ?_; clear hK K)
    refine hN.out _ _ _ _ (grown_refl _ _) (by first | rfl | go_simp) ?_
    iterate 5 (refine hH.out _ _ _ _ (fun K hK => ?_); go_simp; refine hK _ ?_; clear hK K)
    refine hN.out _ _ _ _ (grown_refl _ _) (by first | rfl | go_simp) ?_
    refine hN.out _ _ _ _ (grown_refl _ _) (by first | rfl | go_simp) ?_
    iterate 1 (refine hH.out _ _ _ _ (fun K hK => ?_); go_simp; refine hK _ ?_; clear hK K)
    refine hE.out _ _ ?_
    clear hH hC hN hE W
    show JS _ _
    refine hS _ _ ?_
    exact ⟨_, Fr.of _ rfl ⟨rfl, rfl, rfl, rfl, rfl, rfl, rfl, rfl, rfl, rfl, rfl, rfl, rfl, rfl, rfl, trivial⟩, HE.out, HW1.out⟩
  cases cq
  · rw [fr_sxR, show fr 0 = _ from q0, show fr 1 = _ from q1, show fr 2 = _ from q2, show fr 3 = _ from q3, show fr 9 = _ from q9, show fr 10 = _ from q10, show fr 13 = _ from q13, show fr 14 = _ from q14, show fr 17 = _ from q17, show fr 18 = _ from q18, show fr 19 = _ from q19, show fr 38 = _ from q38, show fr 39 = _ from q39, show fr 40 = _ from q40]
    clear q0 q1 q2 q3 q9 q10 q13 q14 q17 q18 q19 q38 q39 q40
    conv => arg 2; whnf
    refine wp_region_mix (none) [(true, 0), (true, 1), (true, 2), (true, 3), (true, 4), (true, 7), (true, 5), (true, 6), (false, 8), (true, 9), (true, 10), (true, 11), (true, 12), (true, 14), (false, 13), (false, 15), (true, 16)] (by kernel_rfl) (by kernel_rfl) (by intro c a d v w h; cases d <;> exact h) ?_
    simp only [pickFlat, List.filterMap_cons, List.filterMap_nil, List.getElem?_cons_succ, List.getElem?_cons_zero, Option.map_some]
    have A0 := wof_at (w₁ := w.drew) (row := none) (a := ⟨b1, o1 + k.toNat * 2, none⟩) t0 (by simp)
    have A1 := wof_at (w₁ := w.drew) (row := none) (a := ⟨b1, o1 + k.toNat * 2 + 1, none⟩) t1 (by simp)
    have B0 := wof_at (w₁ := w.drew) (row := none) (a := ⟨g14, 0, none⟩) u0 (by simp)
    have B1 := wof_at (w₁ := w.drew) (row := none) (a := ⟨g14, 1, none⟩) u1 (by simp)
    have B2 := wof_at (w₁ := w.drew) (row := none) (a := ⟨g14, 2, none⟩) u2 (by simp)
    have B3 := wof_at (w₁ := w.drew) (row := none) (a := ⟨g14, 3, none⟩) u3 (by simp)
    have B4 := wof_at (w₁ := w.drew) (row := none) (a := ⟨g14, 4, none⟩) u4 (by simp)
    refine flat_hide (fun W hH hC hN hE => ?_)
    iterate 8 (refine hH.out _ _ _ _ (fun K hK => ?_); go_simp; refine hK _ ?_; clear hK K)
    refine hC.out _ _ _ _ (by first | rfl | go_simp) (fun K hK => ?_)
    simp only [bare]
    go_wp2_with fail
    refine HC.out.mono ?_
    rintro e w2 ⟨rfl, hb1⟩
    have HB1 := Lib.hid hb1
    clear hb1
    go_wp2_with fail
    refine hK.out _ _ (grown_of_below HB1.out) ?_
    clear hK K
    iterate 5 (refine hH.out _ _ _ _ (fun K hK => ?_); go_simp; refine hK _ ?_; clear hK K)
    refine hN.out _ _ _ _ (grown_of_below HB1.out) (by first | rfl | go_simp) ?_
    refine hN.out _ _ _ _ (grown_of_below HB1.out) (by first | rfl | go_simp) ?_
    iterate 1 (refine hH.out _ _ _ _ (fun K hK => ?_); go_simp; refine hK _ ?_; clear hK K)
    refine hE.out _ _ ?_
    clear hH hC hN hE W
    show JS _ _
    refine hS _ _ ?_
    exact ⟨_, Fr.of _ rfl ⟨rfl, rfl, rfl, rfl, rfl, rfl, rfl, rfl, rfl, rfl, rfl, rfl, rfl, rfl, rfl, trivial⟩, HE.out, ⟨HW1.out.1.below HB1.out, HW1.out.2.below HB1.out⟩⟩
  · rw [fr_sxR, show fr 0 = _ from q0, show fr 1 = _ from q1, show fr 2 = _ from q2, show fr 3 = _ from q3, show fr 9 = _ from q9, show fr 10 = _ from q10, show fr 13 = _ from q13, show fr 14 = _ from q14, show fr 17 = _ from q17, show fr 18 = _ from q18, show fr 19 = _ from q19, show fr 38 = _ from q38, show fr 39 = _ from q39, show fr 40 = _ from q40]
    clear q0 q1 q2 q3 q9 q10 q13 q14 q17 q18 q19 q38 q39 q40
    conv => arg 2; whnf
    refine wp_region_mix (none) [(true, 0), (true, 1), (true, 2), (true, 3), (true, 4), (true, 7), (true, 5), (true, 6), (false, 8), (true, 9), (true, 10), (true, 11), (true, 12), (true, 14), (false, 13), (false, 15), (true, 16)] (by kernel_rfl) (by kernel_rfl) (by intro c a d v w h; cases d <;> exact h) ?_
    simp only [pickFlat, List.filterMap_cons, List.filterMap_nil, List.getElem?_cons_succ, List.getElem?_cons_zero, Option.map_some]
    have A0 := wof_at (w₁ := w.drew) (row := none) (a := ⟨b1, o1 + k.toNat * 2, none⟩) t0 (by simp)
    have A1 := wof_at (w₁ := w.drew) (row := none) (a := ⟨b1, o1 + k.toNat * 2 + 1, none⟩) t1 (by simp)
    have B0 := wof_at (w₁ := w.drew) (row := none) (a := ⟨g14, 0, none⟩) u0 (by simp)
    have B1 := wof_at (w₁ := w.drew) (row := none) (a := ⟨g14, 1, none⟩) u1 (by simp)
    have B2 := wof_at (w₁ := w.drew) (row := none) (a := ⟨g14, 2, none⟩) u2 (by simp)
    have B3 := wof_at (w₁ := w.drew) (row := none) (a := ⟨g14, 3, none⟩) u3 (by simp)
    have B4 := wof_at (w₁ := w.drew) (row := none) (a := ⟨g14, 4, none⟩) u4 (by simp)
    refine flat_hide (fun W hH hC hN hE => ?_)
    iterate 8 (refine hH.out _ _ _ _ (fun K hK => ?_); go_simp; refine hK _ ?_; clear hK K)
    refine hC.out _ _ _ _ (by first | rfl | go_simp) (fun K hK => ?_)
    simp only [bare]
    go_wp2_with fail
    refine HC.out.mono ?_
    rintro e w2 ⟨rfl, hb1⟩
    have HB1 := Lib.hid hb1
    clear hb1
    go_wp2_with fail
    refine hK.out _ _ (grown_of_below HB1.out) ?_
    clear hK K
    iterate 5 (refine hH.out _ _ _ _ (fun K hK => ?_); go_simp; refine hK _ ?_; clear hK K)
    refine hC.out _ _ _ _ (by first | rfl | go_simp) (fun K hK => ?_)
    simp only [bare]
    go_wp2_with fail
    refine (HI.out w2 HB1.out).mono ?_
    rintro e w3 ⟨v5, rfl, hbo⟩
    have HB2 := Lib.hid (HB1.out.trans (hbo.bel.mono HB1.out.size))
    have HC2 := Lib.hid (contains_str v5 _ _ xj 0 w3 ((Row.of_owns hbo.own).mono (Nat.zero_le _)))
    rw [HH.out] at HC2
    obtain ⟨p6, c6, hv6⟩ := (Row.of_owns hbo.own).shape
    subst hv6
    clear hbo
    go_wp2_with fail
    refine hK.out _ _ (grown_of_below HB2.out) ?_
    clear hK K
    refine hC.out _ _ _ _ (by first | rfl | go_simp) (fun K hK => ?_)
    simp only [bare]
    go_wp2_with fail
    refine HC2.out.mono ?_
    rintro e w4 ⟨rfl, rfl⟩
    go_wp2_with fail
    refine hK.out _ _ (grown_of_below HB2.out) ?_
    clear hK K
    iterate 1 (refine hH.out _ _ _ _ (fun K hK => ?_); go_simp; refine hK _ ?_; clear hK K)
    refine hE.out _ _ ?_
    clear hH hC hN hE W
    show JS _ _
    refine hS _ _ ?_
    exact ⟨_, Fr.of _ rfl ⟨rfl, rfl, rfl, rfl, rfl, rfl, rfl, rfl, rfl, rfl, rfl, rfl, rfl, rfl, rfl, trivial⟩, HE.out, ⟨HW1.out.1.below HB2.out, HW1.out.2.below HB2.out⟩⟩

set_option maxRecDepth 100000 in
set_option maxHeartbeats 1000000 in
theorem sx12 (w0 : World) (vs vl vf vk : Value) (S : List SlD) (L : List ScD) (Fs : List FlD) (K : List ByteArray) (hs : SlH w0 vs S) (hl : ScH w0 vl L) (hf : FlH w0 vf Fs) (hb : BnH w0 vk K) (g : SuG S L Fs K) (v9 : Value) (k : Int) (hst : stays L (geta Fs k).pl = false) (hk : 0 ≤ k ∧ k < Fs.length) (j : Int) (hj : 0 ≤ j ∧ j < K.length) (g14 : Nat) (hn : ∀ j' : Int, 0 ≤ j' → j' < j → okSub S L (subK S L Fs K k.toNat) k.toNat (geta K j') = false) (ho : okSub S L (subK S L Fs K k.toNat) k.toNat (geta K j) = true) : T3 Try.prog (fun a w => (SuW w0 S L Fs K v9 k.toNat w ∧ ScB w g14 (geta L (scIdx L (geta K j)))) ∧ Fr 75 [(0, vs), (1, vl), (2, vf), (3, vk), (9, v9), (10, .int .i64 k), (13, .string (geta K j)), (14, .pointer (some ⟨g14, 0, none⟩)), (17, v9), (18, .int .i64 Fs.length), (19, .int .i64 k), (38, vk), (39, .int .i64 K.length), (40, .int .i64 j)] a) (sel [1, 1, 0, 1, 4, 4, 1, 1, 0, 4, 1, 1, 1, 4, 4, 1, 1, 0, 4, 1, 1, 1, 2, 0] sxR) (fun a w => (SuW w0 S L Fs K v9 ((k + 1).toNat) w) ∧ Fr 75 [(0, vs), (1, vl), (2, vf), (3, vk), (9, v9), (17, v9), (18, .int .i64 Fs.length), (19, .int .i64 k)] a) No 9 No := by
  refine T3.leaf ?_
  rintro Q JS JX JT K_ hS hK hX hE hT hR a w ⟨hW, ⟨fr, rfl, q0, q1, q2, q3, q9, q10, q13, q14, q17, q18, q19, q38, q39, q40, _⟩⟩
  have hk0 := hk.1
  have hk1 := hk.2
  have hfn := hf.n
  have hWx := hW.1
  obtain ⟨g12, c12, hv12, _, _, hn12, hm12⟩ := owns_shape hWx.own (by omega)
  subst hv12
  simp only [maxLen] at hm12
  have e1 : (k + 1).toNat = k.toNat + 1 := by omega
  have ek : ((k.toNat : Nat) : Int) = k := Int.toNat_of_nonneg hk0
  have hput := hWx.put (p := geta K j) (by omega) (subK_put (by rw [ek]; exact hst) hj.1 hj.2 hn ho)
  rw [← e1] at hput
  have HR := Lib.hid hput
  have t0 : ∃ u, w.cell? ⟨g12, k.toNat * 2 + 1, none⟩ = some u := by
    obtain ⟨bz, off, hp, _, _, hcell⟩ := Row.nonnil ((Row.of_owns hWx.own).mono (Nat.zero_le _)) (by omega)
    simp only [Option.some.injEq, Addr.mk.injEq] at hp
    obtain ⟨rfl, rfl, _⟩ := hp
    have := Row.elAt encFl_length hcell hk0 (by rw [subK_length]; omega) 1 _ (by decide) rfl
    rw [Nat.zero_add] at this
    exact ⟨_, this⟩
  obtain ⟨u0, t0⟩ := t0
  have f0 := owns_frozenC hWx.own (k.toNat * 2 + 1)
  clear hput hW hWx e1 ek hst hn ho g
  obtain ⟨p1, c1, hv1⟩ := hs.r.shape
  subst hv1
  obtain ⟨p2, c2, hv2⟩ := hl.r.shape
  subst hv2
  obtain ⟨p3, c3, hv3⟩ := hf.r.shape
  subst hv3
  obtain ⟨p4, c4, hv4⟩ := hb.r.shape
  subst hv4
  clear hs hl hf hb
  generalize geta K j = x at *
  rw [fr_sxR, show fr 0 = _ from q0, show fr 1 = _ from q1, show fr 2 = _ from q2, show fr 3 = _ from q3, show fr 9 = _ from q9, show fr 10 = _ from q10, show fr 13 = _ from q13, show fr 14 = _ from q14, show fr 17 = _ from q17, show fr 18 = _ from q18, show fr 19 = _ from q19, show fr 38 = _ from q38, show fr 39 = _ from q39, show fr 40 = _ from q40]
  clear q0 q1 q2 q3 q9 q10 q13 q14 q17 q18 q19 q38 q39 q40
  conv => arg 2; whnf
  go_wp2_with fail
  refine Met.intro (hS _ _ ?_)
  exact ⟨HR.out, Fr.of _ rfl ⟨rfl, rfl, rfl, rfl, rfl, rfl, rfl, rfl, trivial⟩⟩

set_option maxRecDepth 100000 in
set_option maxHeartbeats 1000000 in
theorem sx13 (w0 : World) (vs vl vf vk : Value) (S : List SlD) (L : List ScD) (Fs : List FlD) (K : List ByteArray) (hs : SlH w0 vs S) (hl : ScH w0 vl L) (hf : FlH w0 vf Fs) (hb : BnH w0 vk K) (g : SuG S L Fs K) (v9 : Value) (k : Int) (hst : stays L (geta Fs k).pl = false) (hk : 0 ≤ k ∧ k < Fs.length) (j : Int) (hj : 0 ≤ j ∧ j < K.length) : T3 Try.prog (fun a w => (SuW w0 S L Fs K v9 (k.toNat) w) ∧ Fr 75 [(0, vs), (1, vl), (2, vf), (3, vk), (9, v9), (10, .int .i64 k), (17, v9), (18, .int .i64 Fs.length), (19, .int .i64 k), (38, vk), (39, .int .i64 K.length), (40, .int .i64 j)] a) (sel [1, 1, 0, 1, 4, 4, 1, 1, 0, 4, 1, 1, 1, 4, 4, 1, 1, 1] sxR) (fun a w => (SuW w0 S L Fs K v9 (k.toNat) w) ∧ Fr 75 [(0, vs), (1, vl), (2, vf), (3, vk), (9, v9), (10, .int .i64 k), (17, v9), (18, .int .i64 Fs.length), (19, .int .i64 k), (38, vk), (39, .int .i64 K.length), (40, .int .i64 (j + 1))] a) No 9 No := by
  refine T3.leaf ?_
  rintro Q JS JX JT K_ hS hK hX hE hT hR a w ⟨hW, ⟨fr, rfl, q0, q1, q2, q3, q9, q10, q17, q18, q19, q38, q39, q40, _⟩⟩
  have HW := Lib.hid hW
  have hbn := hb.n
  obtain ⟨p5, c5, hv5⟩ := (Row.of_owns hW.own).shape
  subst hv5
  obtain ⟨p1, c1, hv1⟩ := hs.r.shape
  subst hv1
  obtain ⟨p2, c2, hv2⟩ := hl.r.shape
  subst hv2
  obtain ⟨p3, c3, hv3⟩ := hf.r.shape
  subst hv3
  obtain ⟨p4, c4, hv4⟩ := hb.r.shape
  subst hv4
  clear hW hs hl hf hb
  rw [fr_sxR, show fr 0 = _ from q0, show fr 1 = _ from q1, show fr 2 = _ from q2, show fr 3 = _ from q3, show fr 9 = _ from q9, show fr 10 = _ from q10, show fr 17 = _ from q17, show fr 18 = _ from q18, show fr 19 = _ from q19, show fr 38 = _ from q38, show fr 39 = _ from q39, show fr 40 = _ from q40]
  clear q0 q1 q2 q3 q9 q10 q17 q18 q19 q38 q39 q40
  conv => arg 2; whnf
  go_wp2_with fail
  refine Met.intro (hS _ _ ?_)
  exact ⟨HW.out, Fr.of _ rfl ⟨rfl, rfl, rfl, rfl, rfl, rfl, rfl, rfl, rfl, rfl, rfl, rfl, trivial⟩⟩

set_option maxRecDepth 100000 in
set_option maxHeartbeats 1000000 in
theorem soin (w0 : World) (vs vl vf vk : Value) (S : List SlD) (L : List ScD) (Fs : List FlD) (K : List ByteArray) (hs : SlH w0 vs S) (hl : ScH w0 vl L) (hf : FlH w0 vf Fs) (hb : BnH w0 vk K) (g : SuG S L Fs K) (v9 : Value) (k : Int) (hst : stays L (geta Fs k).pl = false) (hk : 0 ≤ k ∧ k < Fs.length) : T3 Try.prog (fun a w => (SuW w0 S L Fs K v9 (k.toNat) w) ∧ Fr 75 [(0, vs), (1, vl), (2, vf), (3, vk), (9, v9), (10, .int .i64 k), (17, v9), (18, .int .i64 Fs.length), (19, .int .i64 k), (38, vk), (39, .int .i64 K.length), (40, .int .i64 0)] a) (sel [1, 1, 0, 1, 4, 4, 1, 1, 0, 4, 1, 1, 1] sxR) (fun a w => (SuW w0 S L Fs K v9 ((k + 1).toNat) w) ∧ Fr 75 [(0, vs), (1, vl), (2, vf), (3, vk), (9, v9), (17, v9), (18, .int .i64 Fs.length), (19, .int .i64 k)] a) No 9 No := by
  have ek : ((k.toNat : Nat) : Int) = k := Int.toNat_of_nonneg hk.1
  have e1 : (k + 1).toNat = k.toNat + 1 := by have := hk.1; omega
  refine T3.loop (c := (sel [1, 1, 0, 1, 4, 4, 1, 1, 0, 4, 1, 1, 1, 4, 4] sxR)) (fun ng => (fun a w => ∃ j : Int, ((ng : Int) = K.length - j ∧ (0 ≤ j ∧ j ≤ K.length) ∧ ∀ j' : Int, 0 ≤ j' → j' < j → okSub S L (subK S L Fs K k.toNat) k.toNat (geta K j') = false) ∧ (SuW w0 S L Fs K v9 (k.toNat) w) ∧ Fr 75 [(0, vs), (1, vl), (2, vf), (3, vk), (9, v9), (10, .int .i64 k), (17, v9), (18, .int .i64 Fs.length), (19, .int .i64 k), (38, vk), (39, .int .i64 K.length), (40, .int .i64 j)] a)) (fun a w q => ⟨K.length, 0, ⟨by omega, ⟨by omega, by omega⟩, fun j h0 h1 => by omega⟩, q⟩) (fun ng => T3.ex fun j => T3.pure fun hj3 => ?_)
  obtain ⟨hng, hj, hn⟩ := hj3
  refine T3.seq (s := (sel [1, 1, 0, 1, 4, 4, 1, 1, 0, 4, 1, 1, 1, 4, 4, 0] sxR)) (c := (sel [1, 1, 0, 1, 4, 4, 1, 1, 0, 4, 1, 1, 1, 4, 4, 1] sxR)) ((sx8 w0 vs vl vf vk S L Fs K hs hl hf hb g v9 k hst hk j hj).noX) ?_
  refine T3.seq (s := (sel [1, 1, 0, 1, 4, 4, 1, 1, 0, 4, 1, 1, 1, 4, 4, 1, 0] sxR)) (c := (sel [1, 1, 0, 1, 4, 4, 1, 1, 0, 4, 1, 1, 1, 4, 4, 1, 1] sxR)) (S := fun a w => (j < K.length) ∧ (SuW w0 S L Fs K v9 (k.toNat) w) ∧ Fr 75 [(0, vs), (1, vl), (2, vf), (3, vk), (9, v9), (10, .int .i64 k), (17, v9), (18, .int .i64 Fs.length), (19, .int .i64 k), (38, vk), (39, .int .i64 K.length), (40, .int .i64 j)] a) ?_ (T3.pure fun hlt => ?_)
  · refine T3.iff (x := .skip) (y := .exit 2) (M := fun q w => q = decide (j < (K.length : Int)) ∧ SuW w0 S L Fs K v9 (k.toNat) w) (by decide) (T3.skip fun a w q => ⟨of_decide_eq_true q.2.1.symm, q.2.2, q.1.tail⟩) (T3.exit fun a w q => ?_)
    have he := of_decide_eq_false q.2.1.symm
    refine ⟨?_, q.1.sub (by simp)⟩
    rw [e1]
    exact q.2.2.step (subK_none (by rw [ek]; exact hst) (fun j' h0 h1 => hn j' h0 (by omega)))
  have hj2 : 0 ≤ j ∧ j < K.length := ⟨hj.1, hlt⟩
  refine T3.seq (s := (sel [1, 1, 0, 1, 4, 4, 1, 1, 0, 4, 1, 1, 1, 4, 4, 1, 1, 0] sxR)) (c := (sel [1, 1, 0, 1, 4, 4, 1, 1, 0, 4, 1, 1, 1, 4, 4, 1, 1, 1] sxR)) (S := fun a w => (okSub S L (subK S L Fs K k.toNat) k.toNat (geta K j) = false) ∧ (SuW w0 S L Fs K v9 (k.toNat) w) ∧ Fr 75 [(0, vs), (1, vl), (2, vf), (3, vk), (9, v9), (10, .int .i64 k), (17, v9), (18, .int .i64 Fs.length), (19, .int .i64 k), (38, vk), (39, .int .i64 K.length), (40, .int .i64 j)] a) ?_ (T3.pure fun hno => ?_)
  · refine T3.block (id' := 3) (c := (sel [1, 1, 0, 1, 4, 4, 1, 1, 0, 4, 1, 1, 1, 4, 4, 1, 1, 0, 4] sxR)) (by decide) ?_
    refine T3.seq (s := (sel [1, 1, 0, 1, 4, 4, 1, 1, 0, 4, 1, 1, 1, 4, 4, 1, 1, 0, 4, 0] sxR)) (c := (sel [1, 1, 0, 1, 4, 4, 1, 1, 0, 4, 1, 1, 1, 4, 4, 1, 1, 0, 4, 1] sxR)) ((sx9 w0 vs vl vf vk S L Fs K hs hl hf hb g v9 k hst hk j hj2).noX) ?_
    refine T3.seq (s := (sel [1, 1, 0, 1, 4, 4, 1, 1, 0, 4, 1, 1, 1, 4, 4, 1, 1, 0, 4, 1, 0] sxR)) (c := (sel [1, 1, 0, 1, 4, 4, 1, 1, 0, 4, 1, 1, 1, 4, 4, 1, 1, 0, 4, 1, 1] sxR)) ((sx10 w0 vs vl vf vk S L Fs K hs hl hf hb g v9 k hst hk j hj2).noX) (T3.ex fun g14 => ?_)
    refine T3.test (s := (sel [1, 1, 0, 1, 4, 4, 1, 1, 0, 4, 1, 1, 1, 4, 4, 1, 1, 0, 4, 1, 1, 0] sxR)) (x := (sel [1, 1, 0, 1, 4, 4, 1, 1, 0, 4, 1, 1, 1, 4, 4, 1, 1, 0, 4, 1, 1, 1, 2] sxR)) (y := .skip) (C := fun q => (q = okSub S L (subK S L Fs K k.toNat) k.toNat (geta K j))) (W := fun w => SuW w0 S L Fs K v9 k.toNat w ∧ ScB w g14 (geta L (scIdx L (geta K j)))) (by decide) ((sx11 w0 vs vl vf vk S L Fs K hs hl hf hb g v9 k hst hk j hj2 g14).noX) ?_ (T3.skip ?_)
    · refine T3.pre (R := fun a w => (okSub S L (subK S L Fs K k.toNat) k.toNat (geta K j) = true) ∧ (SuW w0 S L Fs K v9 k.toNat w ∧ ScB w g14 (geta L (scIdx L (geta K j)))) ∧ Fr 75 [(0, vs), (1, vl), (2, vf), (3, vk), (9, v9), (10, .int .i64 k), (13, .string (geta K j)), (14, .pointer (some ⟨g14, 0, none⟩)), (17, v9), (18, .int .i64 Fs.length), (19, .int .i64 k), (38, vk), (39, .int .i64 K.length), (40, .int .i64 j)] a) (T3.pure fun ho => ?_) (fun a w q => ⟨q.2.1.symm, q.2.2, q.1.tail⟩)
      exact T3.seq (s := (sel [1, 1, 0, 1, 4, 4, 1, 1, 0, 4, 1, 1, 1, 4, 4, 1, 1, 0, 4, 1, 1, 1, 2, 0] sxR)) (c := .exit 2) ((sx12 w0 vs vl vf vk S L Fs K hs hl hf hb g v9 k hst hk j hj2 g14 hn ho).noX) (T3.exit fun a w q => q)
    · rintro a w ⟨hq, hW, hF⟩
      exact ⟨hq.symm, hW.1, hF.sub (by simp)⟩
  exact ((sx13 w0 vs vl vf vk S L Fs K hs hl hf hb g v9 k hst hk j hj2).noX).post (fun a w q => ⟨ng - 1, by omega, j + 1, ⟨by omega, ⟨by omega, by omega⟩, fun j' h0 h1 => by
    by_cases e : j' = j
    · rw [e]; exact hno
    · exact hn j' h0 (by omega)⟩, q⟩)

set_option maxRecDepth 100000 in
set_option maxHeartbeats 1000000 in
theorem sx_b (w0 : World) (vs vl vf vk : Value) (S : List SlD) (L : List ScD) (Fs : List FlD) (K : List ByteArray) (hs : SlH w0 vs S) (hl : ScH w0 vl L) (hf : FlH w0 vf Fs) (hb : BnH w0 vk K) (g : SuG S L Fs K) (v9 : Value) (k : Int) : T3 Try.prog (fun a w => (0 ≤ k ∧ k < Fs.length) ∧ (SuW w0 S L Fs K v9 ((k : Int).toNat) w) ∧ Fr 75 [(0, vs), (1, vl), (2, vf), (3, vk), (9, v9), (17, v9), (18, .int .i64 Fs.length), (19, .int .i64 k)] a) (sel [1, 1, 0, 1, 4, 4, 1, 1, 0] sxR) (fun a w => (0 ≤ k ∧ k < Fs.length) ∧ (SuW w0 S L Fs K v9 (((k + 1) : Int).toNat) w) ∧ Fr 75 [(0, vs), (1, vl), (2, vf), (3, vk), (9, v9), (17, v9), (18, .int .i64 Fs.length), (19, .int .i64 k)] a) No 100 No := by
  refine T3.blockX (c := (sel [1, 1, 0, 1, 4, 4, 1, 1, 0, 4] sxR)) ?_
  refine T3.seq (s := (sel [1, 1, 0, 1, 4, 4, 1, 1, 0, 4, 0] sxR)) (c := (sel [1, 1, 0, 1, 4, 4, 1, 1, 0, 4, 1] sxR)) ((sx4 w0 vs vl vf vk S L Fs K hs hl hf hb g v9 k).noX) ?_
  refine T3.seq (s := (sel [1, 1, 0, 1, 4, 4, 1, 1, 0, 4, 1, 0] sxR)) (c := (sel [1, 1, 0, 1, 4, 4, 1, 1, 0, 4, 1, 1] sxR)) (S := fun a w => (0 ≤ k ∧ k < Fs.length) ∧ (stays L (geta Fs k).pl = false) ∧ (SuW w0 S L Fs K v9 ((k : Int).toNat) w) ∧ Fr 75 [(0, vs), (1, vl), (2, vf), (3, vk), (9, v9), (10, .int .i64 k), (17, v9), (18, .int .i64 Fs.length), (19, .int .i64 k)] a) ?_ (T3.pure fun hk => T3.pure fun hst => ?_)
  · refine T3.seq (s := (sel [1, 1, 0, 1, 4, 4, 1, 1, 0, 4, 1, 0, 0] sxR)) (c := (sel [1, 1, 0, 1, 4, 4, 1, 1, 0, 4, 1, 0, 1] sxR)) ((sx5 w0 vs vl vf vk S L Fs K hs hl hf hb g v9 k).noX) ?_
    refine T3.test (s := (sel [1, 1, 0, 1, 4, 4, 1, 1, 0, 4, 1, 0, 1, 0] sxR)) (x := .exit 1) (y := .skip) (C := fun q => ((0 ≤ k ∧ k < Fs.length) ∧ q = stays L (geta Fs k).pl)) (W := fun w => SuW w0 S L Fs K v9 ((k : Int).toNat) w) (by decide) ((sx6 w0 vs vl vf vk S L Fs K hs hl hf hb g v9 k).noX) (T3.exit ?_) (T3.skip ?_)
    · rintro a w ⟨hF, ⟨hk, hq⟩, hW⟩
      refine ⟨hk, ?_, hF.sub (by simp)⟩
      rw [show (k + 1).toNat = k.toNat + 1 by omega]
      exact hW.step (subK_stay (by rw [Int.toNat_of_nonneg hk.1]; exact hq.symm))
    · rintro a w ⟨⟨hk, hq⟩, hW, hF⟩
      exact ⟨hk, hq.symm, hW, hF.sub (by simp)⟩
  exact (T3.seq (s := (sel [1, 1, 0, 1, 4, 4, 1, 1, 0, 4, 1, 1, 0] sxR)) (c := (sel [1, 1, 0, 1, 4, 4, 1, 1, 0, 4, 1, 1, 1] sxR)) ((sx7 w0 vs vl vf vk S L Fs K hs hl hf hb g v9 k hst hk).noX (id' := 1)) ((soin w0 vs vl vf vk S L Fs K hs hl hf hb g v9 k hst hk).noX)).post (fun a w q => ⟨hk, q⟩)

def sxLI (w0 : World) (vs vl vf vk : Value) (S : List SlD) (L : List ScD) (Fs : List FlD) (K : List ByteArray) (hs : SlH w0 vs S) (hl : ScH w0 vl L) (hf : FlH w0 vf Fs) (hb : BnH w0 vk K) (g : SuG S L Fs K) (v9 : Value) (k : Int) (a : Act) (w : World) : Prop := (0 ≤ k ∧ k ≤ Fs.length) ∧ (SuW w0 S L Fs K v9 ((k : Int).toNat) w) ∧ Fr 75 [(0, vs), (1, vl), (2, vf), (3, vk), (9, v9), (17, v9), (18, .int .i64 Fs.length), (19, .int .i64 k)] a
set_option maxRecDepth 100000 in
set_option maxHeartbeats 1000000 in
theorem sxLt (w0 : World) (vs vl vf vk : Value) (S : List SlD) (L : List ScD) (Fs : List FlD) (K : List ByteArray) (hs : SlH w0 vs S) (hl : ScH w0 vl L) (hf : FlH w0 vf Fs) (hb : BnH w0 vk K) (g : SuG S L Fs K) (v9 : Value) (k : Int) : T3 Try.prog (fun a w => sxLI w0 vs vl vf vk S L Fs K hs hl hf hb g v9 k a w) (sel [1, 1, 0, 1, 4, 4, 0] sxR) (fun a w => ∃ q, Fr 75 ((20, .bool q) :: [(19, .int .i64 k)]) a ∧ ((q = true ↔ k < Fs.length) ∧ sxLI w0 vs vl vf vk S L Fs K hs hl hf hb g v9 k a w)) No 9 No := by
  refine T3.leaf ?_
  rintro Q JS JX JT K_ hS hK hX hE hT hR a w ⟨hk, hW, ⟨fr, rfl, q0, q1, q2, q3, q9, q17, q18, q19, _⟩⟩
  have hln := hf.n
  rw [fr_sxR, show fr 0 = _ from q0, show fr 1 = _ from q1, show fr 2 = _ from q2, show fr 3 = _ from q3, show fr 9 = _ from q9, show fr 17 = _ from q17, show fr 18 = _ from q18, show fr 19 = _ from q19]
  clear q0 q1 q2 q3 q9 q17 q18 q19
  conv => arg 2; whnf
  by_cases hlt : k < Fs.length
  · go_wp2_with fail
    refine Met.intro (hS _ _ ?_)
    exact ⟨true, Fr.of _ rfl ⟨rfl, rfl, trivial⟩, ⟨fun _ => hlt, fun _ => rfl⟩, hk, hW, Fr.of _ rfl ⟨rfl, rfl, rfl, rfl, rfl, rfl, rfl, rfl, trivial⟩⟩
  · have hpb : decide (k < (Fs.length : Int)) = false := by simp; omega
    go_wp2_with fail
    refine Met.intro (hS _ _ ?_)
    exact ⟨false, Fr.of _ rfl ⟨rfl, rfl, trivial⟩, ⟨(fun h => by cases h), fun h => absurd h (by omega)⟩, hk, hW, Fr.of _ rfl ⟨rfl, rfl, rfl, rfl, rfl, rfl, rfl, rfl, trivial⟩⟩

set_option maxRecDepth 100000 in
set_option maxHeartbeats 1000000 in
theorem sxLn (w0 : World) (vs vl vf vk : Value) (S : List SlD) (L : List ScD) (Fs : List FlD) (K : List ByteArray) (hs : SlH w0 vs S) (hl : ScH w0 vl L) (hf : FlH w0 vf Fs) (hb : BnH w0 vk K) (g : SuG S L Fs K) (v9 : Value) (k : Int) : T3 Try.prog (fun a w => (0 ≤ k ∧ k < Fs.length) ∧ (SuW w0 S L Fs K v9 (((k + 1) : Int).toNat) w) ∧ Fr 75 [(0, vs), (1, vl), (2, vf), (3, vk), (9, v9), (17, v9), (18, .int .i64 Fs.length), (19, .int .i64 k)] a) (sel [1, 1, 0, 1, 4, 4, 1, 1, 1] sxR) (fun a w => sxLI w0 vs vl vf vk S L Fs K hs hl hf hb g v9 (k + 1) a w) No 9 No := by
  refine T3.leaf ?_
  rintro Q JS JX JT K_ hS hK hX hE hT hR a w ⟨hk, hW, ⟨fr, rfl, q0, q1, q2, q3, q9, q17, q18, q19, _⟩⟩
  obtain ⟨hk0, hk1⟩ := hk
  have hln := hf.n
  rw [fr_sxR, show fr 0 = _ from q0, show fr 1 = _ from q1, show fr 2 = _ from q2, show fr 3 = _ from q3, show fr 9 = _ from q9, show fr 17 = _ from q17, show fr 18 = _ from q18, show fr 19 = _ from q19]
  clear q0 q1 q2 q3 q9 q17 q18 q19
  conv => arg 2; whnf
  go_wp2_with fail
  refine Met.intro (hS _ _ ?_)
  exact ⟨⟨by omega, by omega⟩, hW, Fr.of _ rfl ⟨rfl, rfl, rfl, rfl, rfl, rfl, rfl, rfl, trivial⟩⟩

set_option maxRecDepth 100000 in
set_option maxHeartbeats 1000000 in
theorem sxLloop (w0 : World) (vs vl vf vk : Value) (S : List SlD) (L : List ScD) (Fs : List FlD) (K : List ByteArray) (hs : SlH w0 vs S) (hl : ScH w0 vl L) (hf : FlH w0 vf Fs) (hb : BnH w0 vk K) (g : SuG S L Fs K) (v9 : Value) : T3 Try.prog (fun a w => sxLI w0 vs vl vf vk S L Fs K hs hl hf hb g v9 0 a w) (sel [1, 1, 0, 1] sxR) (fun a w => (SuW w0 S L Fs K v9 (Fs.length) w) ∧ Fr 75 [(9, v9)] a) No 9 No := by
  refine T3.loop (c := (sel [1, 1, 0, 1, 4, 4] sxR)) (fun ng_ a w => ∃ k : Int, (ng_ : Int) = Fs.length - k ∧ sxLI w0 vs vl vf vk S L Fs K hs hl hf hb g v9 k a w) (fun a w h => ⟨(Fs.length : Int).toNat, 0, by have := h.1.2; omega, h⟩) (fun ng_ => T3.ex fun k => T3.pure fun hng_ => ?_)
  refine T3.seq (s := (sel [1, 1, 0, 1, 4, 4, 0] sxR)) (c := (sel [1, 1, 0, 1, 4, 4, 1] sxR)) ((sxLt w0 vs vl vf vk S L Fs K hs hl hf hb g v9 k).noX) ?_
  refine T3.seq (s := (sel [1, 1, 0, 1, 4, 4, 1, 0] sxR)) (c := (sel [1, 1, 0, 1, 4, 4, 1, 1] sxR)) (S := fun a w => (0 ≤ k ∧ k < Fs.length) ∧ (SuW w0 S L Fs K v9 ((k : Int).toNat) w) ∧ Fr 75 [(0, vs), (1, vl), (2, vf), (3, vk), (9, v9), (17, v9), (18, .int .i64 Fs.length), (19, .int .i64 k)] a) ?_ (T3.seq (s := (sel [1, 1, 0, 1, 4, 4, 1, 1, 0] sxR)) (c := (sel [1, 1, 0, 1, 4, 4, 1, 1, 1] sxR)) (S := fun a w => (0 ≤ k ∧ k < Fs.length) ∧ (SuW w0 S L Fs K v9 (((k + 1) : Int).toNat) w) ∧ Fr 75 [(0, vs), (1, vl), (2, vf), (3, vk), (9, v9), (17, v9), (18, .int .i64 Fs.length), (19, .int .i64 k)] a) (T3.noX (sx_b w0 vs vl vf vk S L Fs K hs hl hf hb g v9 k)) ?_)
  · refine T3.cond (o := .tmp 20) (x := .skip) (y := .exit 0) (fun a w => k < Fs.length ∧ sxLI w0 vs vl vf vk S L Fs K hs hl hf hb g v9 k a w) (fun a w => ¬ k < Fs.length ∧ sxLI w0 vs vl vf vk S L Fs K hs hl hf hb g v9 k a w) ?_ (T3.skip ?_) (T3.exit ?_)
    · rintro a w ⟨q, hF, hq, hI⟩
      have he := hF.eval 20 (by decide) (v := .bool q) (by simp)
      cases q
      · exact .inr ⟨he, (fun h => by have := hq.2 h; cases this), hI⟩
      · exact .inl ⟨he, hq.1 rfl, hI⟩
    · rintro a w ⟨hlt, hk, hI⟩
      exact ⟨⟨hk.1, hlt⟩, hI⟩
    · rintro a w ⟨hlt, hk, hI⟩
      obtain rfl : k = Fs.length := by omega
      obtain ⟨hW, hF⟩ := hI
      rw [show ((Fs.length : Nat) : Int).toNat = Fs.length by omega] at hW
      exact ⟨hW, hF.sub (by simp)⟩
  · intro a w hx
    have hk := hx.1
    exact (((sxLn w0 vs vl vf vk S L Fs K hs hl hf hb g v9 k).noX).post (fun a w q => ⟨ng_ - 1, by omega, k + 1, by omega, q⟩)) a w hx
set_option maxRecDepth 100000 in
set_option maxHeartbeats 1000000 in
theorem sx15 (w0 : World) (vs vl vf vk : Value) (S : List SlD) (L : List ScD) (Fs : List FlD) (K : List ByteArray) (hs : SlH w0 vs S) (hl : ScH w0 vl L) (hf : FlH w0 vf Fs) (hb : BnH w0 vk K) (g : SuG S L Fs K) (v9 : Value) : T3 Try.prog (fun a w => (SuW w0 S L Fs K v9 (Fs.length) w) ∧ Fr 75 [(9, v9)] a) (sel [1, 1, 1, 0] sxR) (fun a w => (SuW w0 S L Fs K v9 (Fs.length) w) ∧ Fr 75 [(8, v9)] a) No 9 No := by
  refine T3.leaf ?_
  rintro Q JS JX JT K_ hS hK hX hE hT hR a w ⟨hW, ⟨fr, rfl, q9, _⟩⟩
  have HW := Lib.hid hW
  obtain ⟨p5, c5, hv5⟩ := (Row.of_owns hW.own).shape
  subst hv5
  clear hW
  rw [fr_sxR, show fr 9 = _ from q9]
  clear q9
  conv => arg 2; whnf
  go_wp2_with fail
  refine Met.intro (hS _ _ ?_)
  exact ⟨HW.out, Fr.of _ rfl ⟨rfl, trivial⟩⟩

set_option maxRecDepth 100000 in
set_option maxHeartbeats 1000000 in
theorem sx_all (w0 : World) (vs vl vf vk : Value) (S : List SlD) (L : List ScD) (Fs : List FlD) (K : List ByteArray) (hs : SlH w0 vs S) (hl : ScH w0 vl L) (hf : FlH w0 vf Fs) (hb : BnH w0 vk K) (g : SuG S L Fs K) : T3 Try.prog (fun a w => (Below w0.heap.size w0 w) ∧ Fr 75 [(0, vs), (1, vl), (2, vf), (3, vk)] a) sxR No No 9 (fun a w => ∃ v9 : Value, (SuW w0 S L Fs K v9 (Fs.length) w) ∧ Fr 75 [(8, v9)] a) := by
  refine T3.seq (s := (sel [0] sxR)) (c := (sel [1] sxR)) (T3.noT (sx0 w0 vs vl vf vk S L Fs K hs hl hf hb g)) ?_
  refine T3.seq (s := (sel [1, 0] sxR)) (c := (sel [1, 1] sxR)) (T3.noT (sx1 w0 vs vl vf vk S L Fs K hs hl hf hb g)) ?_
  refine T3.ex fun v9 => ?_
  refine T3.seq (s := (sel [1, 1, 0] sxR)) (c := (sel [1, 1, 1] sxR)) (T3.noT (T3.seq (s := (sel [1, 1, 0, 0] sxR)) (c := (sel [1, 1, 0, 1] sxR)) (sx2 w0 vs vl vf vk S L Fs K hs hl hf hb g v9) (sxLloop w0 vs vl vf vk S L Fs K hs hl hf hb g v9))) ?_
  exact T3.seq (s := (sel [1, 1, 1, 0] sxR)) (c := .ret) (T3.noT (sx15 w0 vs vl vf vk S L Fs K hs hl hf hb g v9)) (T3.ret fun a w q => ⟨v9, q⟩)

set_option maxRecDepth 100000 in
set_option maxHeartbeats 1000000 in
theorem subbed_ref (w0 : World) (vs vl vf vk : Value) (S : List SlD) (L : List ScD) (Fs : List FlD) (K : List ByteArray) (hs : SlH w0 vs S) (hl : ScH w0 vl L) (hf : FlH w0 vf Fs) (hb : BnH w0 vk K) (g : SuG S L Fs K) : Calls Try.prog 19 #[vs, vl, vf, vk] w0 fun e w' => ∃ v8 : Value, e = .returned v8 ∧ w'.ownsRow w0.heap.size 42 2 v8 (subR S L Fs K).length (cellsOf encFl (subR S L Fs K)) ∧ Below w0.heap.size w0 w' := by
  have hall := sx_all w0 vs vl vf vk S L Fs K hs hl hf hb g
  go_enter Try.func19, Try.ntmps19
  refine T3.done (s := sxR) hall ⟨Below.refl _ _, Fr.of _ rfl ⟨rfl, rfl, rfl, rfl, trivial⟩⟩ ?_
  rintro a w ⟨v9, hW, fr, rfl, q8, _⟩
  rw [fr_sxR, show fr 8 = _ from q8]
  go_ret
  refine ⟨v9, rfl, ?_, hW.bel⟩
  rw [g.r]
  unfold subL
  rw [subK_length]
  exact hW.own
end Go.Proofs.Ytnmdpphddimfbaa
/-
  The law BenchesSubbed: slots, scorers, fills and benches that the stream hands out. No condition.
-/
set_option linter.unusedVariables false
namespace Go.Bw
open Go.RowKit
/-- A row in blocks newer than the stream's. -/
def OwN (n₀ : Nat) (e : TypeId) (sz n : Nat) (v : Value) (cs : List Value) (w : World) : Prop := ∃ base, n₀ < base ∧ w.ownsRow base e sz v n cs
theorem OwN.drawn {n₀ sz n b : Nat} {e : TypeId} {v : Value} {cs : List Value} {w w' : World} (h : OwN n₀ e sz n v cs w) (d : Drawn n₀ w w' b) : OwN n₀ e sz n v cs w' := by
  obtain ⟨base, hb, ho⟩ := h
  exact ⟨base, hb, owns_drawn ho d hb⟩
theorem OwN.row {n₀ sz n : Nat} {e : TypeId} {v : Value} {cs : List Value} {w : World} (h : OwN n₀ e sz n v cs w) : Row w 0 sz v n cs := by
  obtain ⟨base, hb, ho⟩ := h
  exact (Row.of_owns ho).mono (Nat.zero_le _)
/-- Stores into a row of another type. -/
theorem OwN.other {n₀ sz n M sz' n' : Nat} {e e' : TypeId} {v u : Value} {cs xs : List Value} {w w' : World} (h : OwN n₀ e sz n v cs w) (ho : w.ownsRow M e' sz' u n' xs) (he : e ≠ e') (g : w.grownBy w' u.ownBlock) : OwN n₀ e sz n v cs w' := by
  obtain ⟨base, hb, h1⟩ := h
  refine ⟨base, hb, h1.kept g ?_⟩
  rcases h1.2 with ⟨rfl, _⟩ | ⟨g1, cap1, cur1, rfl, _, hg1, _⟩
  · exact .inl rfl
  · rcases ho.2 with ⟨rfl, _⟩ | ⟨g2, cap2, cur2, rfl, _, hg2, _⟩
    · exact .inr (by simp [Value.ownBlock])
    · refine .inr (fun q => ?_)
      simp [Value.ownBlock] at q
      subst q
      have h3 := hg1.symm.trans hg2
      simp only [Option.some.injEq, Obj.cells.injEq] at h3
      exact he h3.2.1
end Go.Bw
namespace Go.Proofs.Ytnmdpphddimfbaa
open Go.RowKit Go.Bw
theorem str_newF (w : World) (v : Value) (n : Nat) (zs : List Int) (e : TypeId) (h : SRow w v n zs w.heap.size) : Str w.heap.size (w.alloc (.cells #[v, .int .i64 0] e)) 0 := by
  refine ⟨v, n, zs, 0, ?_, ?_, ?_, by omega, by simp, h.swap (fun k hk => (World.grownBy_alloc w _ none).block k hk (by simp)) (by simp)⟩
  · rw [World.cell?_alloc_at _ _ _ _ rfl]; rfl
  · rw [World.cell?_alloc_at _ _ _ _ rfl]; rfl
  · exact frozen_new0 w #[v, .int .i64 0] e 1
/-- What can be read: slots, scorers, fills; the box of the fills. -/
structure LH (v4 : Value) (S : List SlD) (v5 : Value) (L : List ScD) (v6 : Value) (Fs : List FlD) (A6 : Nat) (w : World) : Prop where
  s : SlH w v4 S
  c : ScH w v5 L
  f : FlH w v6 Fs
  a6 : w.cell? ⟨A6, 0, none⟩ = some v6
/-- All the data, with the stream. -/
structure LD (n₀ M b : Nat) (w0 : World) (v4 : Value) (S : List SlD) (v5 : Value) (L : List ScD) (v6 : Value) (Fs : List FlD) (A6 : Nat) (v7 : Value) (ks : List ByteArray) (w : World) : Prop where
  bel : Below n₀ w0 w
  str : Str n₀ w b
  hM : n₀ < M
  hs : M ≤ w.heap.size
  rs : OwN n₀ 55 2 S.length v4 (cellsOf encSl S) w
  is : ∀ x ∈ S, PsO n₀ M w x.pv x.ps
  zs : ∀ x ∈ S, Sm x.key
  ns : S.length ≤ 4
  rc : OwN n₀ 63 5 L.length v5 (cellsOf encSc L) w
  ic : ∀ x ∈ L, PsO n₀ M w x.pv x.ps
  zc : ∀ x ∈ L, Sm x.pl
  mc : ∀ x ∈ L, NuO x
  nc : L.length ≤ 6
  rf : OwN n₀ 42 2 Fs.length v6 (cellsOf encFl Fs) w
  zf : ∀ x ∈ Fs, Sm x.sl ∧ Sm x.pl
  nf : Fs.length ≤ 4
  bx : OwN n₀ 30 1 1 (.slice (some ⟨A6, 0, none⟩) 1 1) [v6] w
  kb : w.ownsRow M 9 1 v7 ks.length (cellsOf encSt ks)
  zk : SmAll ks
  nk : ks.length ≤ 7
/-- All the data; the stream is left behind. -/
structure LE (n₀ : Nat) (w0 : World) (v4 : Value) (S : List SlD) (v5 : Value) (L : List ScD) (v6 : Value) (Fs : List FlD) (A6 : Nat) (v7 : Value) (ks : List ByteArray) (w : World) : Prop where
  bel : Below n₀ w0 w
  hz : n₀ ≤ w.heap.size
  d : LH v4 S v5 L v6 Fs A6 w
  k : BnH w v7 ks
section
variable {n₀ M b b' A6 : Nat} {w0 w w' : World} {v4 v5 v6 v7 v7' : Value} {S : List SlD} {L : List ScD} {Fs : List FlD} {ks ks' : List ByteArray}
theorem LH.below (h : LH v4 S v5 L v6 Fs A6 w) (g : Below w.heap.size w w') : LH v4 S v5 L v6 Fs A6 w' :=
  ⟨h.s.below g, h.c.below g, h.f.below g, (g.cell (p := ⟨A6, 0, none⟩) (World.block_lt_of_cell? w _ h.a6)).trans h.a6⟩
theorem LD.drawn (h : LD n₀ M b w0 v4 S v5 L v6 Fs A6 v7 ks w) (d : Drawn n₀ w w' b') : LD n₀ M b' w0 v4 S v5 L v6 Fs A6 v7 ks w' :=
  ⟨below_str h.bel d.gr (Nat.le_refl _) (Nat.le_of_lt (Nat.lt_of_lt_of_le h.hM h.hs)), d.str, h.hM, Nat.le_trans h.hs d.size, h.rs.drawn d, fun x hx => (h.is x hx).str d.gr, h.zs, h.ns, h.rc.drawn d, fun x hx => (h.ic x hx).str d.gr, h.zc, h.mc, h.nc,
    h.rf.drawn d, h.zf, h.nf, h.bx.drawn d, owns_drawn h.kb d h.hM, h.zk, h.nk⟩
theorem LD.below (h : LD n₀ M b w0 v4 S v5 L v6 Fs A6 v7 ks w) (g : Below w.heap.size w w') : LD n₀ M b w0 v4 S v5 L v6 Fs A6 v7 ks w' := h.drawn ((Drawn.refl h.str).below g)
theorem LD.mono (h : LD n₀ M b w0 v4 S v5 L v6 Fs A6 v7 ks w) (hb : b ≤ b') : LD n₀ M b' w0 v4 S v5 L v6 Fs A6 v7 ks w := h.drawn ((Drawn.refl h.str).mono hb)
theorem PsO.own {v u : Value} {ps : List ByteArray} {e : TypeId} {sz m : Nat} {xs : List Value} (h : PsO n₀ M w v ps) (ho : w.ownsRow M e sz u m xs) (g : w.grownBy w' u.ownBlock) : PsH w' v ps :=
  ⟨(h.r.own ho g).row, fun s hs => Nat.le_trans (h.z s hs) (by decide), by have := h.n; omega⟩
theorem LD.H (h : LD n₀ M b w0 v4 S v5 L v6 Fs A6 v7 ks w) (g : w.grownBy w' v7.ownBlock) : LH v4 S v5 L v6 Fs A6 w' := by
  refine ⟨⟨(h.rs.other h.kb (by decide) g).row, fun x hx => (h.is x hx).own h.kb g, fun x hx => Nat.le_trans (h.zs x hx) (by decide), by have := h.ns; omega⟩,
    ⟨(h.rc.other h.kb (by decide) g).row, fun x hx => (h.ic x hx).own h.kb g, fun x hx => Nat.le_trans (h.zc x hx) (by decide), fun x hx => ⟨(h.mc x hx).n.1, (h.mc x hx).n.2, (h.mc x hx).d.1, (h.mc x hx).d.2⟩, by have := h.nc; omega⟩,
    ⟨(h.rf.other h.kb (by decide) g).row, fun x hx => ⟨Nat.le_trans (h.zf x hx).1 (by decide), Nat.le_trans (h.zf x hx).2 (by decide)⟩, by have := h.nf; omega⟩, ?_⟩
  rcases (h.bx.other h.kb (by decide) g).row.2 with ⟨h0, _⟩ | ⟨g, off, cap, hv, _, _, _, _, hc⟩
  · cases h0
  · simp only [Value.slice.injEq, Option.some.injEq, Addr.mk.injEq] at hv
    obtain ⟨⟨rfl, rfl, _⟩, _, _⟩ := hv
    exact hc 0 v6 rfl
theorem LD.E (h : LD n₀ M b w0 v4 S v5 L v6 Fs A6 v7 ks w) : LE n₀ w0 v4 S v5 L v6 Fs A6 v7 ks w :=
  ⟨h.bel, Nat.le_of_lt (Nat.lt_of_lt_of_le h.hM h.hs), h.H (grown_refl _ _), (Row.of_owns h.kb).mono (Nat.zero_le _), fun s hs => Nat.le_trans (h.zk s hs) (by decide), by have := h.nk; omega⟩
theorem LD.E2 (h : LD n₀ M b w0 v4 S v5 L v6 Fs A6 v7 ks w) (g : w.grownBy w' v7.ownBlock) (hr : Row w' 0 1 v7' ks'.length (cellsOf encSt ks')) (hz : SmAll ks') (hn : ks'.length ≤ ks.length) : LE n₀ w0 v4 S v5 L v6 Fs A6 v7' ks' w' :=
  ⟨below_grown h.bel h.kb g (Nat.le_of_lt h.hM) (Nat.le_of_lt (Nat.lt_of_lt_of_le h.hM h.hs)), Nat.le_trans (Nat.le_of_lt (Nat.lt_of_lt_of_le h.hM h.hs)) g.size, h.H g, hr, fun s hs => Nat.le_trans (hz s hs) (by decide), by have := h.nk; omega⟩
theorem LE.below (h : LE n₀ w0 v4 S v5 L v6 Fs A6 v7 ks w) (g : Below w.heap.size w w') : LE n₀ w0 v4 S v5 L v6 Fs A6 v7 ks w' :=
  ⟨h.bel.trans (g.mono h.hz), Nat.le_trans h.hz g.size, h.d.below g, h.k.below g⟩
/-- The data, as the stream has handed it out; the box is new. -/
theorem LD.new {b1 b2 b3 : Nat} {ws wc wf w3 w4 : World} (hb : Below n₀ w0 w3) (hSl : SlO n₀ b1 ws v4 S w3) (hL : ScO n₀ b2 wc v5 L w3) (hF : FlO n₀ b3 wf v6 Fs w3) (hK : StO n₀ b w3 v7 ks w4) (ns : S.length ≤ 4) (nc : L.length ≤ 6) (nf : Fs.length ≤ 4) (nk : ks.length ≤ 7) :
    LD n₀ w3.heap.size b w0 v4 S v5 L v6 Fs w4.heap.size v7 ks (w4.alloc (.cells #[v6] 30)) := by
  have d := hK.d.alloc (.cells #[v6] 30)
  have hlt := hK.hB
  refine ⟨below_str hb d.gr (Nat.le_refl _) (Nat.le_of_lt hlt), d.str, hlt, d.size, ⟨_, hSl.hB, owns_drawn hSl.o d hSl.hB⟩, fun x hx => (hSl.i x hx).str d.gr, hSl.z, ns, ⟨_, hL.hB, owns_drawn hL.o d hL.hB⟩, fun x hx => (hL.i x hx).str d.gr, hL.z, hL.m, nc,
    ⟨_, hF.hB, owns_drawn hF.o d hF.hB⟩, hF.z, nf, ⟨w4.heap.size, Nat.lt_of_lt_of_le hlt hK.d.size, owns_lit w4 w4.heap.size 30 #[v6] 1 (by decide) rfl (Nat.le_refl _)⟩, (hK.alloc _).o, hK.z, nk⟩
end
noncomputable def lbM : Code := (Try.f3.body).getD .skip
set_option maxRecDepth 100000 in
theorem fr_lbM (f : Nat → Value) : frame 93 f = ⟨#[f 0, f 1, f 2, f 3, f 4, f 5, f 6, f 7, f 8, f 9, f 10, f 11, f 12, f 13, f 14, f 15, f 16, f 17, f 18, f 19, f 20, f 21, f 22, f 23, f 24, f 25, f 26, f 27, f 28, f 29, f 30, f 31, f 32, f 33, f 34, f 35, f 36, f 37, f 38, f 39, f 40, f 41, f 42, f 43, f 44, f 45, f 46, f 47, f 48, f 49, f 50, f 51, f 52, f 53, f 54, f 55, f 56, f 57, f 58, f 59, f 60, f 61, f 62, f 63, f 64, f 65, f 66, f 67, f 68, f 69, f 70, f 71, f 72, f 73, f 74, f 75, f 76, f 77, f 78, f 79, f 80, f 81, f 82, f 83, f 84, f 85, f 86, f 87, f 88, f 89, f 90, f 91, f 92], []⟩ := by rfl
set_option maxRecDepth 100000 in
set_option maxHeartbeats 1000000 in
theorem lb0 (v : Value) (w0 : World) : T3 Try.prog (fun a w => (IsW w0 w) ∧ Fr 93 [(0, v)] a) (sel [0] lbM) (fun a w => (IsW w0 w) ∧ Fr 93 [(0, v)] a) No 9 No := by
  refine T3.leaf ?_
  rintro Q JS JX JT K hS hK hX hE hT hR a w ⟨hw, ⟨fr, rfl, q0, _⟩⟩
  obtain rfl : w = w0 := hw
  rw [fr_lbM, show fr 0 = _ from q0]
  clear q0
  conv => arg 2; whnf
  go_wp2_with fail
  refine Met.intro (hS _ _ ?_)
  exact ⟨rfl, Fr.of _ rfl ⟨rfl, trivial⟩⟩

set_option maxRecDepth 100000 in
set_option maxHeartbeats 1000000 in
theorem lb1 (v : Value) (n : Nat) (zs : List Int) (w0 : World) (h : SRow w0 v n zs w0.heap.size) : T3 Try.prog (fun a w => (IsW w0 w) ∧ Fr 93 [(0, v)] a) (sel [1, 0] lbM) (fun a w => (Str w0.heap.size w 0 ∧ Below w0.heap.size w0 w ∧ w0.heap.size + 1 ≤ w.heap.size) ∧ Fr 93 [(3, .pointer (some ⟨w0.heap.size, 0, none⟩))] a) No 9 No := by
  refine T3.leaf ?_
  rintro Q JS JX JT K hS hK hX hE hT hR a w ⟨hw, ⟨fr, rfl, q0, _⟩⟩
  obtain rfl : w = w0 := hw
  have hS0 := str_newF w v n zs 25 h
  obtain ⟨p, c, rfl⟩ : ∃ a c, v = .slice a n c := by
    rcases h with ⟨rfl, a, c, rfl⟩ | ⟨h, _⟩
    · exact ⟨_, _, rfl⟩
    · rcases h.2 with ⟨rfl, rfl⟩ | ⟨b, off, cap, rfl, _⟩
      · exact ⟨_, _, rfl⟩
      · exact ⟨_, _, rfl⟩
  clear h
  rw [fr_lbM, show fr 0 = _ from q0]
  clear q0
  conv => arg 2; whnf
  go_wp2_with fail
  refine Met.intro (hS _ _ ?_)
  exact ⟨⟨hS0, (Below.refl _ _).alloc (Nat.le_refl _) _, by simp⟩, Fr.of _ rfl ⟨rfl, trivial⟩⟩

set_option maxRecDepth 100000 in
set_option maxHeartbeats 1000000 in
theorem lb2 (n₀ : Nat) (w0 : World) : T3 Try.prog (fun a w => (Str n₀ w 0 ∧ Below n₀ w0 w ∧ n₀ + 1 ≤ w.heap.size) ∧ Fr 93 [(3, .pointer (some ⟨n₀, 0, none⟩))] a) (sel [1, 1, 0] lbM) (fun a w => ∃ (ws wc : World) (v4 : Value) (S : List SlD) (v5 : Value) (L : List ScD), (S.length ≤ 4 ∧ L.length ≤ 6) ∧ ((Below n₀ w0 w ∧ n₀ < w.heap.size) ∧ SlO n₀ 80 ws v4 S w ∧ ScO n₀ 80 wc v5 L w) ∧ Fr 93 [(3, .pointer (some ⟨n₀, 0, none⟩)), (4, v4), (5, v5)] a) No 9 No := by
  refine T3.leaf ?_
  rintro Q JS JX JT K hS hK hX hE hT hR a w ⟨⟨hS_, hbel, hz⟩, ⟨fr, rfl, q3, _⟩⟩
  have HS := Lib.hid hS_
  have HB := Lib.hid hbel
  clear hS_ hbel
  rw [fr_lbM, show fr 3 = _ from q3]
  clear q3
  conv => arg 2; whnf
  go_wp2_with fail
  refine (slotsS_any n₀ 0 w HS.out (by decide)).mono ?_
  rintro e w1 ⟨v4, S, rfl, hn, h1⟩
  have H1 := Lib.hid h1
  have HN := Lib.hid hn
  have HB1 := Lib.hid (below_str HB.out h1.d.gr (Nat.le_refl _) (by omega))
  have hz1 := h1.d.size
  obtain ⟨p4, c4, e4⟩ := (Row.of_owns h1.o).shape
  subst e4
  clear h1 hn
  go_wp2_with fail
  refine (scorersS_any n₀ (0 + 26) w1 H1.out.d.str (by decide)).mono ?_
  rintro e w2 ⟨v5, L, rfl, hn, h2⟩
  have H2 := Lib.hid (show (Below n₀ w0 w2 ∧ n₀ < w2.heap.size) ∧ SlO n₀ 80 w (.slice p4 S.length c4) S w2 ∧ ScO n₀ 80 w1 v5 L w2 from ⟨⟨below_str HB1.out h2.d.gr (Nat.le_refl _) (by omega), by have := h2.d.size; omega⟩, H1.out.drawn h2.d, h2⟩)
  have HN2 := Lib.hid hn
  obtain ⟨p5, c5, e5⟩ := (Row.of_owns h2.o).shape
  subst e5
  clear h2 hn
  go_wp2_with fail
  refine Met.intro (hS _ _ ?_)
  exact ⟨w, w1, _, S, _, L, ⟨HN.out, HN2.out⟩, H2.out, Fr.of _ rfl ⟨rfl, rfl, rfl, trivial⟩⟩

set_option maxRecDepth 100000 in
set_option maxHeartbeats 1000000 in
theorem lb3 (n₀ : Nat) (w0 : World) (ws wc : World) (v4 : Value) (S : List SlD) (v5 : Value) (L : List ScD) (hn : S.length ≤ 4 ∧ L.length ≤ 6) : T3 Try.prog (fun a w => ((Below n₀ w0 w ∧ n₀ < w.heap.size) ∧ SlO n₀ 80 ws v4 S w ∧ ScO n₀ 80 wc v5 L w) ∧ Fr 93 [(3, .pointer (some ⟨n₀, 0, none⟩)), (4, v4), (5, v5)] a) (sel [1, 1, 1, 0] lbM) (fun a w => ∃ (M : Nat) (v6 : Value) (Fs : List FlD) (A6 : Nat) (v7 : Value) (ks : List ByteArray), (LD n₀ M 146 w0 v4 S v5 L v6 Fs A6 v7 ks w) ∧ Fr 93 [(3, .pointer (some ⟨n₀, 0, none⟩)), (4, v4), (5, v5), (6, .pointer (some ⟨A6, 0, none⟩)), (7, v7)] a) No 9 No := by
  refine T3.leaf ?_
  rintro Q JS JX JT K hS hK hX hE hT hR a w ⟨⟨hbw, hSl, hL⟩, ⟨fr, rfl, q3, q4, q5, _⟩⟩
  obtain ⟨hn1, hn2⟩ := hn
  have hlt := hbw.2
  have HB := Lib.hid hbw.1
  obtain ⟨p4, c4, e4⟩ := (Row.of_owns hSl.o).shape
  subst e4
  obtain ⟨p5, c5, e5⟩ := (Row.of_owns hL.o).shape
  subst e5
  have HC := Lib.hid (fills_any n₀ 80 80 80 w ws wc c4 c5 p4 p5 S L hSl hL hn1 hn2 (by decide) hL.d.str)
  have HS := Lib.hid hSl
  have HL := Lib.hid hL
  clear hSl hL hbw
  rw [fr_lbM, show fr 3 = _ from q3, show fr 4 = _ from q4, show fr 5 = _ from q5]
  clear q3 q4 q5
  conv => arg 2; whnf
  go_wp2_with fail
  refine HC.out.mono ?_
  rintro e w1 ⟨v6, Fs, rfl, hnf, h1⟩
  have H1 := Lib.hid h1
  have HNF := Lib.hid hnf
  have HS1 := Lib.hid (HS.out.drawn h1.d)
  have HL1 := Lib.hid (HL.out.drawn h1.d)
  have HB1 := Lib.hid (below_str HB.out h1.d.gr (Nat.le_refl _) (by omega))
  obtain ⟨p6, c6, e6⟩ := (Row.of_owns h1.o).shape
  subst e6
  clear h1 hnf
  go_wp2_with fail
  refine (someOf_any n₀ (80 + 52) (80 + 52) w1 wc (.slice p5 L.length c5) L HL1.out HL1.out.d.str (by omega) (by decide)).mono ?_
  rintro e w2 ⟨v7, ks, rfl, hnk, h2⟩
  have H2 := Lib.hid (LD.new HB1.out HS1.out HL1.out H1.out (h2.mono (b' := 146) (by omega)) hn1 hn2 HNF.out (by omega))
  obtain ⟨p7, c7, e7⟩ := (Row.of_owns h2.o).shape
  subst e7
  clear h2 hnk
  go_wp2_with fail
  refine Met.intro (hS _ _ ?_)
  exact ⟨_, _, Fs, _, _, ks, H2.out, Fr.of _ rfl ⟨rfl, rfl, rfl, rfl, rfl, trivial⟩⟩

set_option maxRecDepth 100000 in
set_option maxHeartbeats 1000000 in
theorem lb4 (n₀ : Nat) (w0 : World) (M : Nat) (v4 : Value) (S : List SlD) (v5 : Value) (L : List ScD) (v6 : Value) (Fs : List FlD) (A6 : Nat) (v7 : Value) (ks : List ByteArray) : T3 Try.prog (fun a w => (LD n₀ M 146 w0 v4 S v5 L v6 Fs A6 v7 ks w) ∧ Fr 93 [(3, .pointer (some ⟨n₀, 0, none⟩)), (4, v4), (5, v5), (6, .pointer (some ⟨A6, 0, none⟩)), (7, v7)] a) (sel [1, 1, 1, 1, 0, 0] lbM) (fun a w => ∃ q, Fr 93 ((45, .bool q) :: [(3, .pointer (some ⟨n₀, 0, none⟩)), (4, v4), (5, v5), (6, .pointer (some ⟨A6, 0, none⟩)), (7, v7)]) a ∧ (True ∧ LD n₀ M 147 w0 v4 S v5 L v6 Fs A6 v7 ks w)) No 9 No := by
  refine T3.leaf ?_
  rintro Q JS JX JT K hS hK hX hE hT hR a w ⟨hW, ⟨fr, rfl, q3, q4, q5, q6, q7, _⟩⟩
  have h0 := hW.H (grown_refl _ _)
  have HS := Lib.hid (slots_ref w v4 S h0.s)
  have HC := Lib.hid (fun w' (b : Below w.heap.size w w') => scorers_ref w' v5 L (h0.c.below b))
  have HF := Lib.hid (fun w' (b : Below w.heap.size w w') => fills_ref w' v4 v5 v6 S L Fs (h0.s.below b) (h0.c.below b) (h0.f.below b))
  have HA := Lib.hid (fun w' (b : Below w.heap.size w w') => (h0.below b).a6)
  have HW := Lib.hid hW
  obtain ⟨p4, c4, e4⟩ := hW.rs.row.shape
  subst e4
  obtain ⟨p5, c5, e5⟩ := hW.rc.row.shape
  subst e5
  obtain ⟨p6, c6, e6⟩ := hW.rf.row.shape
  subst e6
  obtain ⟨p7, c7, e7⟩ := (Row.of_owns hW.kb).shape
  subst e7
  clear hW h0
  generalize slotsE S = e1 at *
  generalize scorersE L = e2 at *
  generalize fillsE S L Fs = e3 at *
  rw [fr_lbM, show fr 3 = _ from q3, show fr 4 = _ from q4, show fr 5 = _ from q5, show fr 6 = _ from q6, show fr 7 = _ from q7]
  clear q3 q4 q5 q6 q7
  conv => arg 2; whnf
  by_cases h1 : e1 = 0
  · have hb1 : (e1 == 0) = true := by simp [h1]
    clear h1
    go_wp2_with fail
    refine HS.out.mono ?_
    rintro e w1 ⟨rfl, hb⟩
    have Bw1 := Lib.hid (hb)
    clear hb
    by_cases h2 : e2 = 0
    · have hb2 : (e2 == 0) = true := by simp [h2]
      clear h2
      go_wp2_with fail
      refine (HC.out w1 Bw1.out).mono ?_
      rintro e w2 ⟨rfl, hb⟩
      have Bw2 := Lib.hid (Bw1.out.trans (hb.mono Bw1.out.size))
      clear hb
      by_cases h3 : e3 = 0
      · have hb3 : (e3 == 0) = true := by simp [h3]
        clear h3
        have a6 := HA.out w2 Bw2.out
        go_wp2_with fail
        refine (HF.out w2 Bw2.out).mono ?_
        rintro e w3 ⟨rfl, hb⟩
        have Bw3 := Lib.hid (Bw2.out.trans (hb.mono Bw2.out.size))
        clear hb
        clear a6
        have H3 := Lib.hid (HW.out.below Bw3.out)
        go_wp2_with fail
        refine (flip_d n₀ 146 _ w3 H3.out.str rfl (by decide)).mono ?_
        rintro e w4 ⟨q, rfl, hd⟩
        have HR := Lib.hid (H3.out.drawn hd)
        clear hd
        go_wp2_with fail
        refine Met.intro (hS _ _ ?_)
        exact ⟨_, Fr.of _ rfl ⟨rfl, rfl, rfl, rfl, rfl, rfl, trivial⟩, trivial, HR.out⟩
      · have hb3 : (e3 == 0) = false := by simp [h3]
        clear h3
        have a6 := HA.out w2 Bw2.out
        go_wp2_with fail
        refine (HF.out w2 Bw2.out).mono ?_
        rintro e w3 ⟨rfl, hb⟩
        have Bw3 := Lib.hid (Bw2.out.trans (hb.mono Bw2.out.size))
        clear hb
        clear a6
        have HR := Lib.hid ((HW.out.below Bw3.out).mono (show 146 ≤ 147 by decide))
        go_wp2_with fail
        refine Met.intro (hS _ _ ?_)
        exact ⟨_, Fr.of _ rfl ⟨rfl, rfl, rfl, rfl, rfl, rfl, trivial⟩, trivial, HR.out⟩
    · have hb2 : (e2 == 0) = false := by simp [h2]
      clear h2
      go_wp2_with fail
      refine (HC.out w1 Bw1.out).mono ?_
      rintro e w2 ⟨rfl, hb⟩
      have Bw2 := Lib.hid (Bw1.out.trans (hb.mono Bw1.out.size))
      clear hb
      have HR := Lib.hid ((HW.out.below Bw2.out).mono (show 146 ≤ 147 by decide))
      go_wp2_with fail
      refine Met.intro (hS _ _ ?_)
      exact ⟨_, Fr.of _ rfl ⟨rfl, rfl, rfl, rfl, rfl, rfl, trivial⟩, trivial, HR.out⟩
  · have hb1 : (e1 == 0) = false := by simp [h1]
    clear h1
    go_wp2_with fail
    refine HS.out.mono ?_
    rintro e w1 ⟨rfl, hb⟩
    have Bw1 := Lib.hid (hb)
    clear hb
    have HR := Lib.hid ((HW.out.below Bw1.out).mono (show 146 ≤ 147 by decide))
    go_wp2_with fail
    refine Met.intro (hS _ _ ?_)
    exact ⟨_, Fr.of _ rfl ⟨rfl, rfl, rfl, rfl, rfl, rfl, trivial⟩, trivial, HR.out⟩

set_option maxRecDepth 100000 in
set_option maxHeartbeats 1000000 in
theorem lb5 (n₀ : Nat) (w0 : World) (M : Nat) (v4 : Value) (S : List SlD) (v5 : Value) (L : List ScD) (v6 : Value) (Fs : List FlD) (A6 : Nat) (v7 : Value) (ks : List ByteArray) : T3 Try.prog (fun a w => (LD n₀ M 147 w0 v4 S v5 L v6 Fs A6 v7 ks w) ∧ Fr 93 [(3, .pointer (some ⟨n₀, 0, none⟩)), (4, v4), (5, v5), (6, .pointer (some ⟨A6, 0, none⟩)), (7, v7)] a) (sel [1, 1, 1, 1, 0, 1, 2] lbM) (fun a w => ∃ (v7 : Value) (ks : List ByteArray), (LE n₀ w0 v4 S v5 L v6 Fs A6 v7 ks w) ∧ Fr 93 [(4, v4), (5, v5), (6, .pointer (some ⟨A6, 0, none⟩)), (7, v7)] a) No 9 No := by
  refine T3.leaf ?_
  rintro Q JS JX JT K hS hK hX hE hT hR a w ⟨hW, ⟨fr, rfl, q3, q4, q5, q6, q7, _⟩⟩
  have HD := Lib.hid (del_st 13 Try.call13 (.pointer (some ⟨A6, 0, none⟩)) M (fun x => Fs.any fun y => decide (y.pl = x)) w v7 ks hW.kb hW.zk hW.hs (by have := hW.nk; omega) (fun x _ w1 g => cl_del A6 v6 Fs x w1 (hW.H g).f (hW.H g).a6))
  have HW := Lib.hid hW
  obtain ⟨p4, c4, e4⟩ := hW.rs.row.shape
  subst e4
  obtain ⟨p5, c5, e5⟩ := hW.rc.row.shape
  subst e5
  obtain ⟨p6, c6, e6⟩ := hW.rf.row.shape
  subst e6
  obtain ⟨p7, c7, e7⟩ := (Row.of_owns hW.kb).shape
  subst e7
  clear hW
  rw [fr_lbM, show fr 3 = _ from q3, show fr 4 = _ from q4, show fr 5 = _ from q5, show fr 6 = _ from q6, show fr 7 = _ from q7]
  clear q3 q4 q5 q6 q7
  conv => arg 2; whnf
  go_wp2_with fail
  refine HD.out.mono ?_
  rintro e w1 ⟨v7', ks', rfl, hr, hz, hn, hg⟩
  have HR := Lib.hid (HW.out.E2 hg hr hz hn)
  obtain ⟨q7, d7, e7⟩ := hr.shape
  subst e7
  clear hr hz hn hg
  go_wp2_with fail
  refine Met.intro (hS _ _ ?_)
  exact ⟨_, ks', HR.out, Fr.of _ rfl ⟨rfl, rfl, rfl, rfl, trivial⟩⟩

set_option maxRecDepth 100000 in
set_option maxHeartbeats 1000000 in
theorem lb45 (n₀ : Nat) (w0 : World) (M : Nat) (v4 : Value) (S : List SlD) (v5 : Value) (L : List ScD) (v6 : Value) (Fs : List FlD) (A6 : Nat) (v7 : Value) (ks : List ByteArray) : T3 Try.prog (fun a w => (LD n₀ M 146 w0 v4 S v5 L v6 Fs A6 v7 ks w) ∧ Fr 93 [(3, .pointer (some ⟨n₀, 0, none⟩)), (4, v4), (5, v5), (6, .pointer (some ⟨A6, 0, none⟩)), (7, v7)] a) (sel [1, 1, 1, 1, 0] lbM) (fun a w => ∃ (v7 : Value) (ks : List ByteArray), (LE n₀ w0 v4 S v5 L v6 Fs A6 v7 ks w) ∧ Fr 93 [(4, v4), (5, v5), (6, .pointer (some ⟨A6, 0, none⟩)), (7, v7)] a) No 9 No := by
  refine T3.test (s := (sel [1, 1, 1, 1, 0, 0] lbM)) (x := (sel [1, 1, 1, 1, 0, 1, 2] lbM)) (y := .skip) (C := fun _ => True) (W := fun w => LD n₀ M 147 w0 v4 S v5 L v6 Fs A6 v7 ks w) (by decide) (lb4 n₀ w0 M v4 S v5 L v6 Fs A6 v7 ks) (T3.pre (lb5 n₀ w0 M v4 S v5 L v6 Fs A6 v7 ks) (fun a w q => ⟨q.2.2, q.1.tail⟩)) (T3.skip ?_)
  rintro a w ⟨_, hW, hF⟩
  exact ⟨v7, ks, hW.E, hF.sub (by simp)⟩

end Go.Proofs.Ytnmdpphddimfbaa
/-
  Lines: the program's and the reference's look at them. Conditions: strings and numbers are no greater than Go's.
-/
set_option linter.unusedVariables false
namespace Go.Bw
open Go.RowKit
/-- A statistic: its name, how often. -/
structure StatL where
  name : ByteArray
  count : Int
instance : Inhabited StatL := ⟨⟨ByteArray.empty, 0⟩⟩
def encT (t : StatL) : List Value := [.string t.name, .int .i64 t.count]
theorem encT_length (t : StatL) : (encT t).length = 2 := rfl
/-- Its parts are no greater than Go's. -/
def StatOk (t : StatL) : Prop := t.name.size ≤ 9223372036854775807
end Go.Bw
namespace Go.Proofs.Ytnmdpphddimfbaa
open Go.RowKit Go.Bw

def statAt (l : List StatL) (i : Int) : Int :=
  if keyB (geta l i).name = false then 5 else if outB (geta l i).count (-100000) 100000 = true then 1 else if 0 < i ∧ leB (geta l i).name (geta l (i - 1)).name = true then 7 else 0
def lineE (p : ByteArray) (wk : Int) (l : List StatL) : Int :=
  if keyB p = false then 5 else if outB wk 1 60 = true then 1 else if 40 < l.length then 2 else firstErr (statAt l) l.length
/-- The name before. -/
def lastT (l : List StatL) (i : Int) : ByteArray := if i ≤ 0 then ByteArray.empty else (geta l (i - 1)).name
theorem week_prog (n : Int) (b : Bool) (h : (!outB n 1 60) = b) (w : World) : Calls Try.prog 93 #[.int .i64 n] w fun e w' => e = .returned (.bool b) ∧ w = w' := by
  have ho : outB n 1 60 = !b := by rw [← h]; simp
  have ho := Lib.hid ho
  clear h
  go_enter Try.func93, Try.ntmps93
  go_wp2_with (go_at_call 91; refine (out_is _ _ _ _ ho.out _).mono ?_; rintro e w1 ⟨rfl, rfl⟩)
  go_ret
  exact ⟨ret_bool (by simp), rfl⟩
set_option maxRecDepth 100000 in
set_option maxHeartbeats 2000000 in
theorem line_prog (p : ByteArray) (wk : Int) (v : Value) (n : Nat) (l : List StatL) (base : Nat) (w : World) (hz0 : p.size ≤ 9223372036854775807) (h : Row w base 2 v n (cellsOf encT l)) (hz : ∀ t ∈ l, StatOk t) :
    Calls Try.prog 86 #[.agg #[.string p, .int .i64 wk, v]] w fun e w' => e = .returned (.int .i64 (lineE p wk l)) ∧ Below w.heap.size w w' := by
  obtain ⟨hl, hc⟩ := h.els encT_length (by decide)
  subst hl
  obtain ⟨p0, c0, rfl⟩ := h.shape
  have hw0 := Below.refl w.heap.size w
  clear h
  cases hkb : keyB p
  · have he := Lib.hid (show lineE p wk l = 5 by simp [lineE, hkb])
    have hkb := Lib.hid hkb
    clear hc
    go_enter Try.func86, Try.ntmps86
    go_wp2_with (go_at_call 79; refine (key_is _ _ hkb.out _ hz0).mono ?_; rintro e w1 ⟨rfl, rfl⟩)
    go_ret
    exact ⟨ret_int he.out.symm, hw0.alloc (Nat.le_refl _) _⟩
  cases hob : outB wk 1 60
  rotate_left
  · have he := Lib.hid (show lineE p wk l = 1 by simp [lineE, hkb, hob])
    have hkb := Lib.hid hkb
    have hwb := Lib.hid (show (!outB wk 1 60) = false by rw [hob]; rfl)
    clear hc hob
    go_enter Try.func86, Try.ntmps86
    go_wp2_with first | (go_at_call 79; refine (key_is _ _ hkb.out _ hz0).mono ?_; rintro e w1 ⟨rfl, rfl⟩) | (go_at_call 93; refine (week_prog _ _ hwb.out _).mono ?_; rintro e w1 ⟨rfl, rfl⟩)
    go_ret
    exact ⟨ret_int he.out.symm, hw0.alloc (Nat.le_refl _) _⟩
  by_cases h40 : 40 < l.length
  · have he := Lib.hid (show lineE p wk l = 2 by simp [lineE, hkb, hob, h40])
    have hkb := Lib.hid hkb
    have hwb := Lib.hid (show (!outB wk 1 60) = true by rw [hob]; rfl)
    clear hc hob
    go_enter Try.func86, Try.ntmps86
    go_wp2_with first | (go_at_call 79; refine (key_is _ _ hkb.out _ hz0).mono ?_; rintro e w1 ⟨rfl, rfl⟩) | (go_at_call 93; refine (week_prog _ _ hwb.out _).mono ?_; rintro e w1 ⟨rfl, rfl⟩)
    go_ret
    exact ⟨ret_int he.out.symm, hw0.alloc (Nat.le_refl _) _⟩
  have he := Lib.hid (show lineE p wk l = firstErr (statAt l) l.length by simp [lineE, hkb, hob, h40])
  replace hkb := Lib.hid hkb
  have hwb := Lib.hid (show (!outB wk 1 60) = true by rw [hob]; rfl)
  clear hob
  go_enter Try.func86, Try.ntmps86
  go_wp2_with first | (go_at_call 79; refine (key_is _ _ hkb.out _ hz0).mono ?_; rintro e w1 ⟨rfl, rfl⟩) | (go_at_call 93; refine (week_prog _ _ hwb.out _).mono ?_; rintro e w1 ⟨rfl, rfl⟩)
  have b0 := cells_new w #[.string p, .int .i64 wk, .slice p0 l.length c0] 92 2 _ rfl
  replace hw0 := hw0.alloc (Nat.le_refl _) (.cells #[.string p, .int .i64 wk, .slice p0 l.length c0] 92)
  have hlt0 : w.heap.size < (w.alloc (.cells #[.string p, .int .i64 wk, .slice p0 l.length c0] 92)).heap.size := by simp
  generalize w.alloc (.cells #[.string p, .int .i64 wk, .slice p0 l.length c0] 92) = W at *
  go_loopw [23] (fun i wr => ∃ k : Int, 0 ≤ k ∧ k ≤ l.length ∧ NoErr (statAt l) k ∧ i = .int .i64 k ∧ Below W.heap.size W wr) (fun i  _ => l.length - (intOf i).toNat)
  case atStart => exact ⟨0, by omega, by omega, NoErr.zero _, rfl, Below.refl _ _⟩
  case round =>
    obtain ⟨k, hk0, hk1, hok, rfl, hb⟩ := hrel
    by_cases hlt : k < l.length
    · rcases hc with ⟨_, hc⟩ | ⟨b, off, cap, hv, _, hbs, hnc, hcm, hcell⟩
      · omega
      simp only [Value.slice.injEq] at hv
      obtain ⟨rfl, _, rfl⟩ := hv
      have hbW : b < W.heap.size := by have := hw0.size; omega
      have tr : ∀ o u, w.cell? ⟨b, o, none⟩ = some u → wr.cell? ⟨b, o, none⟩ = some u := fun o u h => ((hb.cell (p := ⟨b, o, none⟩) hbW).trans (hw0.cell (p := ⟨b, o, none⟩) hbs)).trans h
      have g0 := tr _ _ (hcell k hk0 hlt 0 _ rfl)
      have g1 := tr _ _ (hcell k hk0 hlt 1 _ rfl)
      have b0 := (hb.cell (p := ⟨w.heap.size, 2, none⟩) hlt0).trans b0
      rw [Nat.add_zero] at g0
      have hz1 := hz _ (geta_mem hk0 hlt)
      unfold StatOk at hz1
      have hex := Lib.hid (show statAt l k = if keyB (geta l k).name = false then 5 else if outB (geta l k).count (-100000) 100000 = true then 1 else if 0 < k ∧ leB (geta l k).name (geta l (k - 1)).name = true then 7 else 0 from rfl)
      have hc0 : k ≤ 0 ∨ wr.cell? ⟨b, off + (k.toNat - 1) * 2, none⟩ = some (.string (geta l (k - 1)).name) := by
        by_cases hp : 0 < k
        · have := tr _ _ (hcell (k - 1) (by omega) (by omega) 0 _ rfl)
          rw [Nat.add_zero, show (k - 1).toNat = k.toNat - 1 by omega] at this
          exact .inr this
        · exact .inl (by omega)
      have hsz := hb.size
      have hbr : b < wr.heap.size := by omega
      have hBr : w.heap.size < wr.heap.size := by omega
      have hst := Lib.hid (fun h => hok.step (f := statAt l) (i := k) h)
      generalize (geta l k).name = s1 at *
      generalize (geta l k).count = n1 at *
      go_upto_region 10 with fail
      have d0 := cells_new wr #[.string s1, .int .i64 n1] 89 0 _ rfl
      have d1 := cells_new wr #[.string s1, .int .i64 n1] 89 1 _ rfl
      have hb2 := hb.alloc hsz (.cells #[.string s1, .int .i64 n1] 89)
      have b0 := (World.cell?_of_block (a := ⟨w.heap.size, 2, none⟩) ((World.grownBy_alloc wr (.cells #[.string s1, .int .i64 n1] 89) none).block _ hBr (by simp))).trans b0
      replace hc0 : k ≤ 0 ∨ (wr.alloc (.cells #[.string s1, .int .i64 n1] 89)).cell? ⟨b, off + (k.toNat - 1) * 2, none⟩ = some (.string (geta l (k - 1)).name) := by
        rcases hc0 with hc0 | hc0
        · exact .inl hc0
        · exact .inr ((World.cell?_of_block (a := ⟨b, off + (k.toNat - 1) * 2, none⟩) ((World.grownBy_alloc wr (.cells #[.string s1, .int .i64 n1] 89) none).block _ hbr (by simp))).trans hc0)
      generalize wr.alloc (.cells #[.string s1, .int .i64 n1] 89) = W2 at *
      generalize wr.heap.size = g at *
      clear hcell tr g0 g1 hz
      cases hkn : keyB s1
      · have hg := Lib.hid (show statAt l k = 5 by rw [hex.out, if_pos hkn])
        have hf := Lib.hid (firstErr_hit hok hk0 hlt (by rw [hg.out]; decide))
        have hkn := Lib.hid hkn
        go_wp2_with (go_at_call 79; refine (key_is _ _ hkn.out _ hz1).mono ?_; rintro e w2 ⟨rfl, rfl⟩)
        go_ret
        exact ⟨ret_int (by rw [he.out]; show (5 : Int) = firstErr _ _; rw [hf.out, hg.out]), hw0.trans (hb2.mono (Nat.le_of_lt hlt0))⟩
      cases hon : outB n1 (-100000) 100000
      rotate_left
      · have hg := Lib.hid (show statAt l k = 1 by rw [hex.out, if_neg (by rw [hkn]; decide), if_pos hon])
        have hf := Lib.hid (firstErr_hit hok hk0 hlt (by rw [hg.out]; decide))
        have hkn := Lib.hid hkn
        have hon := Lib.hid hon
        go_wp2_with first | (go_at_call 79; refine (key_is _ _ hkn.out _ hz1).mono ?_; rintro e w2 ⟨rfl, rfl⟩) | (go_at_call 91; refine (out_is _ _ _ _ hon.out _).mono ?_; rintro e w2 ⟨rfl, rfl⟩)
        go_ret
        exact ⟨ret_int (by rw [he.out]; show (1 : Int) = firstErr _ _; rw [hf.out, hg.out]), hw0.trans (hb2.mono (Nat.le_of_lt hlt0))⟩
      by_cases hp : 0 < k
      · have hkb1 := hkn
        have hon1 := hon
        rcases hc0 with hc0 | hc0
        · omega
        have hkn := Lib.hid hkn
        have hon := Lib.hid hon
        cases hle : leB s1 (geta l (k - 1)).name
        · have hst := Lib.hid (hst.out (by rw [hex.out, if_neg (by rw [hkb1]; decide), if_neg (by rw [hon1]; decide), if_neg (by rw [hle]; simp)]))
          unfold leB at hle
          clear hkb1 hon1
          generalize (geta l (k - 1)).name = s2 at *
          go_wp2_with first | (go_at_call 79; refine (key_is _ _ hkn.out _ hz1).mono ?_; rintro e w2 ⟨rfl, rfl⟩) | (go_at_call 91; refine (out_is _ _ _ _ hon.out _).mono ?_; rintro e w2 ⟨rfl, rfl⟩)
          go_quiet (fail)
          go_wp2_with fail
          go_roundw
          case rel => exact ⟨k + 1, by omega, by omega, hst.out, rfl, below_drewN hb2 _⟩
          case measure => simp [intOf]; omega
        · have hg := Lib.hid (show statAt l k = 7 by rw [hex.out, if_neg (by rw [hkb1]; decide), if_neg (by rw [hon1]; decide), if_pos ⟨hp, hle⟩])
          have hf := Lib.hid (firstErr_hit hok hk0 hlt (by rw [hg.out]; decide))
          unfold leB at hle
          clear hkb1 hon1
          generalize (geta l (k - 1)).name = s2 at *
          go_wp2_with first | (go_at_call 79; refine (key_is _ _ hkn.out _ hz1).mono ?_; rintro e w2 ⟨rfl, rfl⟩) | (go_at_call 91; refine (out_is _ _ _ _ hon.out _).mono ?_; rintro e w2 ⟨rfl, rfl⟩)
          go_quiet (fail)
          go_wp2_with fail
          go_ret
          exact ⟨ret_int (by rw [he.out]; show (7 : Int) = firstErr _ _; rw [hf.out, hg.out]), below_drewN (hw0.trans (hb2.mono (Nat.le_of_lt hlt0))) _⟩
      · have hst := Lib.hid (hst.out (by rw [hex.out, if_neg (by rw [hkn]; decide), if_neg (by rw [hon]; decide), if_neg (fun h => hp h.1)]))
        have hpb : decide (0 < k) = false := by simp; omega
        have hkn := Lib.hid hkn
        have hon := Lib.hid hon
        go_wp2_with first | (go_at_call 79; refine (key_is _ _ hkn.out _ hz1).mono ?_; rintro e w2 ⟨rfl, rfl⟩) | (go_at_call 91; refine (out_is _ _ _ _ hon.out _).mono ?_; rintro e w2 ⟨rfl, rfl⟩)
        go_quiet (fail)
        go_wp2_with fail
        go_roundw
        case rel => exact ⟨k + 1, by omega, by omega, hst.out, rfl, below_drewN hb2 _⟩
        case measure => simp [intOf]; omega
    · have hf := Lib.hid (firstErr_none (f := statAt l) (n := l.length) (fun j h0 h1 => hok j h0 (by omega)))
      clear hc
      go_wp2_with fail
      go_ret
      exact ⟨ret_int (by rw [he.out, hf.out]), hw0.trans (hb.mono (Nat.le_of_lt hlt0))⟩

end Go.Proofs.Ytnmdpphddimfbaa
/-
  Rules: the program's and the reference's look at them. Conditions: strings and numbers are no greater than Go's.
-/
set_option linter.unusedVariables false
namespace Go.Bw
open Go.RowKit
structure RuleL where
  key : ByteArray
  stat : ByteArray
  pos : ByteArray
  kind : Int
  many : Int
  num : Int
  den : Int
instance : Inhabited RuleL := ⟨⟨ByteArray.empty, ByteArray.empty, ByteArray.empty, 0, 0, 0, 0⟩⟩
def encR (r : RuleL) : List Value := [.string r.key, .string r.stat, .string r.pos, .int .i64 r.kind, .int .i64 r.many, .int .i64 r.num, .int .i64 r.den]
theorem encR_length (r : RuleL) : (encR r).length = 7 := rfl
/-- Its parts are no greater than Go's. -/
structure RuleOk (r : RuleL) : Prop where
  key : r.key.size ≤ 9223372036854775807
  stat : r.stat.size ≤ 9223372036854775807
  pos : r.pos.size ≤ 9223372036854775807
  num0 : -9223372036854775808 ≤ r.num
  num1 : r.num ≤ 9223372036854775807
  den0 : -9223372036854775808 ≤ r.den
  den1 : r.den ≤ 9223372036854775807
/-- Block g holds a copy. -/
def CopyR (w : World) (g : Nat) (r : RuleL) : Prop := g < w.heap.size ∧ ∀ j u, (encR r)[j]? = some u → w.cell? ⟨g, j, none⟩ = some u
theorem CopyR.below {w w' : World} {g : Nat} {r : RuleL} (h : CopyR w g r) (b : Below w.heap.size w w') : CopyR w' g r :=
  ⟨Nat.lt_of_lt_of_le h.1 b.size, fun j u hu => (b.cell (p := ⟨g, j, none⟩) h.1).trans (h.2 j u hu)⟩
theorem str_empty {s : ByteArray} (h : s.size = 0) : s.toList = [] := by
  have : s.data.toList.length = 0 := by simpa using h
  have := List.length_eq_zero_iff.1 this
  simpa [ByteArray.toList_eq] using this
theorem str_full {s : ByteArray} (h : s.size ≠ 0) : s.toList.isEmpty = false := by
  have : s.data.toList.length ≠ 0 := by simpa using h
  have : s.data.toList ≠ [] := fun e => this (by rw [e]; rfl)
  simpa [ByteArray.toList_eq] using this
end Go.Bw
namespace Go.Proofs.Ytnmdpphddimfbaa
open Go.RowKit Go.Bw
def nameB (r : RuleL) : Bool := !keyB r.key || !keyB r.stat || (decide (r.pos.size ≠ 0) && !keyB r.pos)
def orderB (l : List RuleL) (i : Int) : Bool := decide (0 < i) && leB (geta l i).key (geta l (i - 1)).key
def kindB (r : RuleL) : Bool := outB r.kind 1 4
def many2 (r : RuleL) : Bool := r.kind == 2 || r.kind == 3
def manyBad (r : RuleL) : Bool := if many2 r = true then outB r.many 1 100000 else r.many != 0
def ruleAt (l : List RuleL) (i : Int) : Int :=
  if nameB (geta l i) = true then 5 else if orderB l i = true then 7 else if kindB (geta l i) = true then 4 else if manyBad (geta l i) = true then 1 else amountE (geta l i).num (geta l i).den 10000
def rulesE (l : List RuleL) : Int := if 100 < l.length then 2 else firstErr (ruleAt l) l.length
/-- The key before. -/
def lastK (l : List RuleL) (i : Int) : ByteArray := if i ≤ 0 then ByteArray.empty else (geta l (i - 1)).key
/-- The round of rule k: its copy lies in block g. -/
structure Mw (w0 : World) (l : List RuleL) (k : Int) (g : Nat) (w : World) : Prop where
  k0 : 0 ≤ k
  k1 : k < l.length
  ok : NoErr (ruleAt l) k
  copy : CopyR w g (geta l k)
  bel : Below w0.heap.size w0 w
theorem Mw.below {w0 w w' : World} {l : List RuleL} {k : Int} {g : Nat} (h : Mw w0 l k g w) (b : Below w.heap.size w w') : Mw w0 l k g w' :=
  ⟨h.k0, h.k1, h.ok, h.copy.below b, h.bel.trans (b.mono h.bel.size)⟩
theorem Mw.drewN {w0 w : World} {l : List RuleL} {k : Int} {g : Nat} (h : Mw w0 l k g w) (n : Nat) : Mw w0 l k g (w.drewN n) :=
  ⟨h.k0, h.k1, h.ok, h.copy, below_drewN h.bel n⟩
theorem Mw.ends {w0 w : World} {l : List RuleL} {k : Int} {g : Nat} (h : Mw w0 l k g w) (hl : ¬ 100 < l.length) (he : ruleAt l k ≠ 0) : rulesE l = ruleAt l k := by
  unfold rulesE
  rw [if_neg hl]
  exact firstErr_hit h.ok h.k0 h.k1 he
noncomputable def rulesP : Code := (Try.f84.body).getD .skip
set_option maxRecDepth 100000 in
theorem frame87 (f : Nat → Value) : frame 87 f = ⟨#[f 0, f 1, f 2, f 3, f 4, f 5, f 6, f 7, f 8, f 9, f 10, f 11, f 12, f 13, f 14, f 15, f 16, f 17, f 18, f 19, f 20, f 21, f 22, f 23, f 24, f 25, f 26, f 27, f 28, f 29, f 30, f 31, f 32, f 33, f 34, f 35, f 36, f 37, f 38, f 39, f 40, f 41, f 42, f 43, f 44, f 45, f 46, f 47, f 48, f 49, f 50, f 51, f 52, f 53, f 54, f 55, f 56, f 57, f 58, f 59, f 60, f 61, f 62, f 63, f 64, f 65, f 66, f 67, f 68, f 69, f 70, f 71, f 72, f 73, f 74, f 75, f 76, f 77, f 78, f 79, f 80, f 81, f 82, f 83, f 84, f 85, f 86], []⟩ := by rfl
set_option maxRecDepth 100000 in
set_option maxHeartbeats 1000000 in
theorem rp_name (v : Value) (l : List RuleL) (w0 : World) (k : Int) (g : Nat) (hz : ∀ r ∈ l, RuleOk r) (hl : ¬ 100 < l.length) : T3 Try.prog (fun a w => (True) ∧ Mw w0 l k g w ∧ Fr 87 ([(0, v), (10, v), (11, .int .i64 l.length), (12, .int .i64 k), (3, .int .i64 k), (4, .pointer (some ⟨g, 0, none⟩))]) a) (sel [1, 1, 0, 1, 4, 4, 1, 1, 0, 4, 1, 0, 4, 0] rulesP)
    (fun a w => ∃ q, Fr 87 ((17, .bool q) :: [(0, v), (10, v), (11, .int .i64 l.length), (12, .int .i64 k), (3, .int .i64 k), (4, .pointer (some ⟨g, 0, none⟩))]) a ∧ ((q = nameB (geta l k)) ∧ Mw w0 l k g w)) No 0
    (fun a w => Fr 87 [(2, .int .i64 (rulesE l))] a ∧ Below w0.heap.size w0 w) := by
  refine T3.leaf ?_
  rintro Q JS JX JT K hS hK hX hE hT hR a w ⟨hC, hM, ⟨f, rfl, q0, q10, q11, q12, q3, q4, _⟩⟩
  have HC := Lib.hid hC
  clear hC
  have hr := hz _ (geta_mem hM.k0 hM.k1)
  have hk0 := hM.k0
  have hk1 := hM.k1
  have hcp := hM.copy.2
  rw [frame87, show f 0 = v from q0, show f 10 = v from q10, show f 11 = .int .i64 l.length from q11, show f 12 = .int .i64 k from q12, show f 3 = .int .i64 k from q3, show f 4 = .pointer (some ⟨g, 0, none⟩) from q4]
  clear q0 q10 q11 q12 q3 q4
  conv => arg 2; whnf
  have c0 := hcp 0 _ rfl
  have c1 := hcp 1 _ rfl
  have c2 := hcp 2 _ rfl
  clear hcp
  have z0 := hr.key
  have z1 := hr.stat
  have z2 := hr.pos
  have Hn := Lib.hid (show nameB (geta l k) = (!keyB (geta l k).key || !keyB (geta l k).stat || (decide ((geta l k).pos.size ≠ 0) && !keyB (geta l k).pos)) from rfl)
  clear hr
  generalize (geta l k).key = s0 at *
  generalize (geta l k).stat = s1 at *
  generalize (geta l k).pos = s2 at *
  cases b0 : keyB s0
  · have Hq := Lib.hid (show true = nameB (geta l k) by rw [Hn.out, b0]; rfl)
    have B0 := Lib.hid b0
    go_wp2_with (go_at_call 79; go_must (refine (key_is _ _ B0.out _ z0).mono ?_); rintro e w1 ⟨rfl, rfl⟩)
    refine Met.intro (hS _ _ ?_)
    exact ⟨true, Fr.of _ rfl ⟨rfl, rfl, rfl, rfl, rfl, rfl, rfl, trivial⟩, Hq.out, hM⟩
  cases b1 : keyB s1
  · have Hq := Lib.hid (show true = nameB (geta l k) by rw [Hn.out, b0, b1]; rfl)
    have B0 := Lib.hid b0
    have B1 := Lib.hid b1
    clear b0 b1
    go_wp2_with fail
    refine (key_is _ _ B0.out _ z0).mono ?_
    rintro e w1 ⟨rfl, rfl⟩
    go_wp2_with fail
    refine (key_is _ _ B1.out _ z1).mono ?_
    rintro e w1 ⟨rfl, rfl⟩
    go_wp2_with fail
    refine Met.intro (hS _ _ ?_)
    exact ⟨true, Fr.of _ rfl ⟨rfl, rfl, rfl, rfl, rfl, rfl, rfl, trivial⟩, Hq.out, hM⟩
  have B0 := Lib.hid b0
  have B1 := Lib.hid b1
  by_cases h2 : s2.size = 0
  · have Hq := Lib.hid (show false = nameB (geta l k) by rw [Hn.out, b0, b1]; simp [h2])
    have e2 := str_empty h2
    clear b0 b1 h2
    go_wp2_with fail
    refine (key_is _ _ B0.out _ z0).mono ?_
    rintro e w1 ⟨rfl, rfl⟩
    go_wp2_with fail
    refine (key_is _ _ B1.out _ z1).mono ?_
    rintro e w1 ⟨rfl, rfl⟩
    go_wp2_with fail
    refine Met.intro (hS _ _ ?_)
    exact ⟨false, Fr.of _ rfl ⟨rfl, rfl, rfl, rfl, rfl, rfl, rfl, trivial⟩, Hq.out, hM⟩
  · have e2 := str_full h2
    have e3 : (!s2.toList.isEmpty) = true := by rw [e2]; rfl
    cases b2 : keyB s2
    · have Hq := Lib.hid (show true = nameB (geta l k) by rw [Hn.out, b0, b1, b2]; simp [h2])
      have B2 := Lib.hid b2
      clear b0 b1 b2 h2
      go_wp2_with fail
      refine (key_is _ _ B0.out _ z0).mono ?_
      rintro e w1 ⟨rfl, rfl⟩
      go_wp2_with fail
      refine (key_is _ _ B1.out _ z1).mono ?_
      rintro e w1 ⟨rfl, rfl⟩
      go_wp2_with fail
      refine (key_is _ _ B2.out _ z2).mono ?_
      rintro e w1 ⟨rfl, rfl⟩
      go_wp2_with fail
      refine Met.intro (hS _ _ ?_)
      exact ⟨true, Fr.of _ rfl ⟨rfl, rfl, rfl, rfl, rfl, rfl, rfl, trivial⟩, Hq.out, hM⟩
    · have Hq := Lib.hid (show false = nameB (geta l k) by rw [Hn.out, b0, b1, b2]; simp)
      have B2 := Lib.hid b2
      clear b0 b1 b2 h2
      go_wp2_with fail
      refine (key_is _ _ B0.out _ z0).mono ?_
      rintro e w1 ⟨rfl, rfl⟩
      go_wp2_with fail
      refine (key_is _ _ B1.out _ z1).mono ?_
      rintro e w1 ⟨rfl, rfl⟩
      go_wp2_with fail
      refine (key_is _ _ B2.out _ z2).mono ?_
      rintro e w1 ⟨rfl, rfl⟩
      go_wp2_with fail
      refine Met.intro (hS _ _ ?_)
      exact ⟨false, Fr.of _ rfl ⟨rfl, rfl, rfl, rfl, rfl, rfl, rfl, trivial⟩, Hq.out, hM⟩

set_option maxRecDepth 100000 in
set_option maxHeartbeats 1000000 in
theorem rp_name5 (v : Value) (l : List RuleL) (w0 : World) (k : Int) (g : Nat) (hz : ∀ r ∈ l, RuleOk r) (hl : ¬ 100 < l.length) : T3 Try.prog (fun a w => Fr 87 ((17, .bool true) :: [(0, v), (10, v), (11, .int .i64 l.length), (12, .int .i64 k), (3, .int .i64 k), (4, .pointer (some ⟨g, 0, none⟩))]) a ∧ (true = nameB (geta l k)) ∧ Mw w0 l k g w) (sel [1, 1, 0, 1, 4, 4, 1, 1, 0, 4, 1, 0, 4, 1, 2] rulesP) No No 0 (fun a w => Fr 87 [(2, .int .i64 (rulesE l))] a ∧ Below w0.heap.size w0 w) := by
  refine T3.leaf ?_
  rintro Q JS JX JT K hS hK hX hE hT hR a w ⟨⟨f, rfl, q17, q0, q10, q11, q12, q3, q4, _⟩, hC, hM⟩
  have He := Lib.hid (hM.ends hl (by rw [show ruleAt l k = 5 from if_pos hC.symm]; decide))
  have Hv := Lib.hid (show ruleAt l k = 5 by rw [show ruleAt l k = 5 from if_pos hC.symm])
  have hb := hM.bel
  clear hC
  rw [frame87, show f 17 = .bool true from q17, show f 0 = v from q0, show f 10 = v from q10, show f 11 = .int .i64 l.length from q11, show f 12 = .int .i64 k from q12, show f 3 = .int .i64 k from q3, show f 4 = .pointer (some ⟨g, 0, none⟩) from q4]
  clear q17 q0 q10 q11 q12 q3 q4
  conv => arg 2; whnf
  go_wp2_with fail
  refine Met.intro (hT _ _ ?_)
  exact ⟨Fr.of _ rfl ⟨by rw [He.out, Hv.out]; rfl, trivial⟩, hb⟩

set_option maxRecDepth 100000 in
set_option maxHeartbeats 1000000 in
theorem rp_order (v : Value) (l : List RuleL) (w0 : World) (k : Int) (g : Nat) (hz : ∀ r ∈ l, RuleOk r) (hl : ¬ 100 < l.length) (hrow : l.length = 0 ∨ ∃ b off cap, v = .slice (some ⟨b, off, none⟩) l.length cap ∧ b < w0.heap.size ∧ (l.length ≤ cap ∧ cap ≤ 9223372036854775807) ∧ ∀ i : Int, 0 ≤ i → i < l.length → ∀ j u, (encR (geta l i))[j]? = some u → w0.cell? ⟨b, off + i.toNat * 7 + j, none⟩ = some u) : T3 Try.prog (fun a w => (false = nameB (geta l k)) ∧ Mw w0 l k g w ∧ Fr 87 ([(0, v), (10, v), (11, .int .i64 l.length), (12, .int .i64 k), (3, .int .i64 k), (4, .pointer (some ⟨g, 0, none⟩))]) a) (sel [1, 1, 0, 1, 4, 4, 1, 1, 0, 4, 1, 0, 4, 1, 3, 0] rulesP)
    (fun a w => ∃ q, Fr 87 ((39, .bool q) :: [(0, v), (10, v), (11, .int .i64 l.length), (12, .int .i64 k), (3, .int .i64 k), (4, .pointer (some ⟨g, 0, none⟩))]) a ∧ ((q = orderB l k ∧ false = nameB (geta l k)) ∧ Mw w0 l k g w)) No 0
    (fun a w => Fr 87 [(2, .int .i64 (rulesE l))] a ∧ Below w0.heap.size w0 w) := by
  refine T3.leaf ?_
  rintro Q JS JX JT K hS hK hX hE hT hR a w ⟨hC, hM, ⟨f, rfl, q0, q10, q11, q12, q3, q4, _⟩⟩
  have HC := Lib.hid hC
  clear hC
  have hr := hz _ (geta_mem hM.k0 hM.k1)
  have hk0 := hM.k0
  have hk1 := hM.k1
  have hcp := hM.copy.2
  rw [frame87, show f 0 = v from q0, show f 10 = v from q10, show f 11 = .int .i64 l.length from q11, show f 12 = .int .i64 k from q12, show f 3 = .int .i64 k from q3, show f 4 = .pointer (some ⟨g, 0, none⟩) from q4]
  clear q0 q10 q11 q12 q3 q4
  conv => arg 2; whnf
  have c0 := hcp 0 _ rfl
  clear hcp hr
  have Ho := Lib.hid (show orderB l k = (decide (0 < k) && leB (geta l k).key (geta l (k - 1)).key) from rfl)
  by_cases hp : 0 < k
  · rcases hrow with hrow | ⟨b, off, cap, rfl, hbs, hcm, hcell⟩
    · omega
    have pp := hcell (k - 1) (by omega) (by omega) 0 _ rfl
    rw [Nat.add_zero] at pp
    have p0 := (hM.bel.cell (p := ⟨b, off + (k - 1).toNat * 7, none⟩) hbs).trans pp
    clear pp
    rw [show (k - 1).toNat = k.toNat - 1 by omega] at p0
    clear hcell
    generalize (geta l k).key = s0 at *
    generalize (geta l (k - 1)).key = s1 at *
    cases hle : leB s0 s1
    · have Hq := Lib.hid (show false = orderB l k by rw [Ho.out, hle]; simp)
      unfold leB at hle
      go_wp2_with fail
      go_quiet (fail)
      go_wp2_with fail
      refine Met.intro (hS _ _ ?_)
      exact ⟨false, Fr.of _ rfl ⟨rfl, rfl, rfl, rfl, rfl, rfl, rfl, trivial⟩, ⟨Hq.out, HC.out⟩, hM.drewN _⟩
    · have Hq := Lib.hid (show true = orderB l k by rw [Ho.out, hle]; simp [hp])
      unfold leB at hle
      go_wp2_with fail
      go_quiet (fail)
      go_wp2_with fail
      refine Met.intro (hS _ _ ?_)
      exact ⟨true, Fr.of _ rfl ⟨rfl, rfl, rfl, rfl, rfl, rfl, rfl, trivial⟩, ⟨Hq.out, HC.out⟩, hM.drewN _⟩
  · have Hq := Lib.hid (show false = orderB l k by rw [Ho.out]; simp [hp])
    have hpb : decide (0 < k) = false := by simp; omega
    clear hrow
    generalize (geta l k).key = s0 at *
    go_wp2_with fail
    go_quiet (fail)
    go_wp2_with fail
    refine Met.intro (hS _ _ ?_)
    exact ⟨false, Fr.of _ rfl ⟨rfl, rfl, rfl, rfl, rfl, rfl, rfl, trivial⟩, ⟨Hq.out, HC.out⟩, hM.drewN _⟩

set_option maxRecDepth 100000 in
set_option maxHeartbeats 1000000 in
theorem rp_order7 (v : Value) (l : List RuleL) (w0 : World) (k : Int) (g : Nat) (hz : ∀ r ∈ l, RuleOk r) (hl : ¬ 100 < l.length) : T3 Try.prog (fun a w => Fr 87 ((39, .bool true) :: [(0, v), (10, v), (11, .int .i64 l.length), (12, .int .i64 k), (3, .int .i64 k), (4, .pointer (some ⟨g, 0, none⟩))]) a ∧ (true = orderB l k ∧ false = nameB (geta l k)) ∧ Mw w0 l k g w) (sel [1, 1, 0, 1, 4, 4, 1, 1, 0, 4, 1, 0, 4, 1, 3, 1, 2] rulesP) No No 0 (fun a w => Fr 87 [(2, .int .i64 (rulesE l))] a ∧ Below w0.heap.size w0 w) := by
  refine T3.leaf ?_
  rintro Q JS JX JT K hS hK hX hE hT hR a w ⟨⟨f, rfl, q39, q0, q10, q11, q12, q3, q4, _⟩, hC, hM⟩
  have He := Lib.hid (hM.ends hl (by rw [show ruleAt l k = 7 by unfold ruleAt; rw [if_neg (by rw [← hC.2]; decide), if_pos hC.1.symm]]; decide))
  have Hv := Lib.hid (show ruleAt l k = 7 by rw [show ruleAt l k = 7 by unfold ruleAt; rw [if_neg (by rw [← hC.2]; decide), if_pos hC.1.symm]])
  have hb := hM.bel
  clear hC
  rw [frame87, show f 39 = .bool true from q39, show f 0 = v from q0, show f 10 = v from q10, show f 11 = .int .i64 l.length from q11, show f 12 = .int .i64 k from q12, show f 3 = .int .i64 k from q3, show f 4 = .pointer (some ⟨g, 0, none⟩) from q4]
  clear q39 q0 q10 q11 q12 q3 q4
  conv => arg 2; whnf
  go_wp2_with fail
  refine Met.intro (hT _ _ ?_)
  exact ⟨Fr.of _ rfl ⟨by rw [He.out, Hv.out]; rfl, trivial⟩, hb⟩

set_option maxRecDepth 100000 in
set_option maxHeartbeats 1000000 in
theorem rp_kind (v : Value) (l : List RuleL) (w0 : World) (k : Int) (g : Nat) (hz : ∀ r ∈ l, RuleOk r) (hl : ¬ 100 < l.length) : T3 Try.prog (fun a w => (false = orderB l k ∧ false = nameB (geta l k)) ∧ Mw w0 l k g w ∧ Fr 87 ([(0, v), (10, v), (11, .int .i64 l.length), (12, .int .i64 k), (3, .int .i64 k), (4, .pointer (some ⟨g, 0, none⟩))]) a) (sel [1, 1, 0, 1, 4, 4, 1, 1, 0, 4, 1, 0, 4, 1, 3, 1, 3, 0] rulesP)
    (fun a w => ∃ q, Fr 87 ((53, .bool q) :: [(0, v), (10, v), (11, .int .i64 l.length), (12, .int .i64 k), (3, .int .i64 k), (4, .pointer (some ⟨g, 0, none⟩))]) a ∧ ((q = kindB (geta l k) ∧ false = orderB l k ∧ false = nameB (geta l k)) ∧ Mw w0 l k g w)) No 0
    (fun a w => Fr 87 [(2, .int .i64 (rulesE l))] a ∧ Below w0.heap.size w0 w) := by
  refine T3.leaf ?_
  rintro Q JS JX JT K hS hK hX hE hT hR a w ⟨hC, hM, ⟨f, rfl, q0, q10, q11, q12, q3, q4, _⟩⟩
  have HC := Lib.hid hC
  clear hC
  have hr := hz _ (geta_mem hM.k0 hM.k1)
  have hk0 := hM.k0
  have hk1 := hM.k1
  have hcp := hM.copy.2
  rw [frame87, show f 0 = v from q0, show f 10 = v from q10, show f 11 = .int .i64 l.length from q11, show f 12 = .int .i64 k from q12, show f 3 = .int .i64 k from q3, show f 4 = .pointer (some ⟨g, 0, none⟩) from q4]
  clear q0 q10 q11 q12 q3 q4
  conv => arg 2; whnf
  have c3 := hcp 3 _ rfl
  clear hcp hr
  have Ho := Lib.hid (show kindB (geta l k) = outB (geta l k).kind 1 4 from rfl)
  generalize (geta l k).kind = n0 at *
  cases ho : outB n0 1 4
  · have Hq := Lib.hid (show false = kindB (geta l k) by rw [Ho.out, ho])
    have ho := Lib.hid ho
    go_wp2_with (go_at_call 91; refine (out_is _ _ _ _ ho.out _).mono ?_; rintro e w1 ⟨rfl, rfl⟩)
    refine Met.intro (hS _ _ ?_)
    exact ⟨false, Fr.of _ rfl ⟨rfl, rfl, rfl, rfl, rfl, rfl, rfl, trivial⟩, ⟨Hq.out, HC.out⟩, hM⟩
  · have Hq := Lib.hid (show true = kindB (geta l k) by rw [Ho.out, ho])
    have ho := Lib.hid ho
    go_wp2_with (go_at_call 91; refine (out_is _ _ _ _ ho.out _).mono ?_; rintro e w1 ⟨rfl, rfl⟩)
    refine Met.intro (hS _ _ ?_)
    exact ⟨true, Fr.of _ rfl ⟨rfl, rfl, rfl, rfl, rfl, rfl, rfl, trivial⟩, ⟨Hq.out, HC.out⟩, hM⟩

set_option maxRecDepth 100000 in
set_option maxHeartbeats 1000000 in
theorem rp_kind4 (v : Value) (l : List RuleL) (w0 : World) (k : Int) (g : Nat) (hz : ∀ r ∈ l, RuleOk r) (hl : ¬ 100 < l.length) : T3 Try.prog (fun a w => Fr 87 ((53, .bool true) :: [(0, v), (10, v), (11, .int .i64 l.length), (12, .int .i64 k), (3, .int .i64 k), (4, .pointer (some ⟨g, 0, none⟩))]) a ∧ (true = kindB (geta l k) ∧ false = orderB l k ∧ false = nameB (geta l k)) ∧ Mw w0 l k g w) (sel [1, 1, 0, 1, 4, 4, 1, 1, 0, 4, 1, 0, 4, 1, 3, 1, 3, 1, 2] rulesP) No No 0 (fun a w => Fr 87 [(2, .int .i64 (rulesE l))] a ∧ Below w0.heap.size w0 w) := by
  refine T3.leaf ?_
  rintro Q JS JX JT K hS hK hX hE hT hR a w ⟨⟨f, rfl, q53, q0, q10, q11, q12, q3, q4, _⟩, hC, hM⟩
  have He := Lib.hid (hM.ends hl (by rw [show ruleAt l k = 4 by unfold ruleAt; rw [if_neg (by rw [← hC.2.2]; decide), if_neg (by rw [← hC.2.1]; decide), if_pos hC.1.symm]]; decide))
  have Hv := Lib.hid (show ruleAt l k = 4 by rw [show ruleAt l k = 4 by unfold ruleAt; rw [if_neg (by rw [← hC.2.2]; decide), if_neg (by rw [← hC.2.1]; decide), if_pos hC.1.symm]])
  have hb := hM.bel
  clear hC
  rw [frame87, show f 53 = .bool true from q53, show f 0 = v from q0, show f 10 = v from q10, show f 11 = .int .i64 l.length from q11, show f 12 = .int .i64 k from q12, show f 3 = .int .i64 k from q3, show f 4 = .pointer (some ⟨g, 0, none⟩) from q4]
  clear q53 q0 q10 q11 q12 q3 q4
  conv => arg 2; whnf
  go_wp2_with fail
  refine Met.intro (hT _ _ ?_)
  exact ⟨Fr.of _ rfl ⟨by rw [He.out, Hv.out]; rfl, trivial⟩, hb⟩

set_option maxRecDepth 100000 in
set_option maxHeartbeats 1000000 in
theorem rp_m2 (v : Value) (l : List RuleL) (w0 : World) (k : Int) (g : Nat) (hz : ∀ r ∈ l, RuleOk r) (hl : ¬ 100 < l.length) : T3 Try.prog (fun a w => (false = kindB (geta l k) ∧ false = orderB l k ∧ false = nameB (geta l k)) ∧ Mw w0 l k g w ∧ Fr 87 ([(0, v), (10, v), (11, .int .i64 l.length), (12, .int .i64 k), (3, .int .i64 k), (4, .pointer (some ⟨g, 0, none⟩))]) a) (sel [1, 1, 0, 1, 4, 4, 1, 1, 0, 4, 1, 1, 0] rulesP)
    (fun a w => (false = kindB (geta l k) ∧ false = orderB l k ∧ false = nameB (geta l k)) ∧ Mw w0 l k g w ∧ Fr 87 ((5, .bool (many2 (geta l k))) :: [(0, v), (10, v), (11, .int .i64 l.length), (12, .int .i64 k), (3, .int .i64 k), (4, .pointer (some ⟨g, 0, none⟩))]) a) No 0
    (fun a w => Fr 87 [(2, .int .i64 (rulesE l))] a ∧ Below w0.heap.size w0 w) := by
  refine T3.leaf ?_
  rintro Q JS JX JT K hS hK hX hE hT hR a w ⟨hC, hM, ⟨f, rfl, q0, q10, q11, q12, q3, q4, _⟩⟩
  have HC := Lib.hid hC
  clear hC
  have hr := hz _ (geta_mem hM.k0 hM.k1)
  have hk0 := hM.k0
  have hk1 := hM.k1
  have hcp := hM.copy.2
  rw [frame87, show f 0 = v from q0, show f 10 = v from q10, show f 11 = .int .i64 l.length from q11, show f 12 = .int .i64 k from q12, show f 3 = .int .i64 k from q3, show f 4 = .pointer (some ⟨g, 0, none⟩) from q4]
  clear q0 q10 q11 q12 q3 q4
  conv => arg 2; whnf
  have c3 := hcp 3 _ rfl
  clear hcp hr
  have Ho := Lib.hid (show many2 (geta l k) = ((geta l k).kind == 2 || (geta l k).kind == 3) from rfl)
  generalize (geta l k).kind = n0 at *
  cases e1 : (n0 == 2)
  · cases e2 : (n0 == 3)
    · have Hq := Lib.hid (show false = many2 (geta l k) by rw [Ho.out, e1, e2]; rfl)
      go_wp2_with fail
      refine Met.intro (hS _ _ ?_)
      exact ⟨HC.out, hM, Fr.of _ rfl ⟨by rw [← Hq.out]; rfl, rfl, rfl, rfl, rfl, rfl, rfl, trivial⟩⟩
    · have Hq := Lib.hid (show true = many2 (geta l k) by rw [Ho.out, e1, e2]; rfl)
      go_wp2_with fail
      refine Met.intro (hS _ _ ?_)
      exact ⟨HC.out, hM, Fr.of _ rfl ⟨by rw [← Hq.out]; rfl, rfl, rfl, rfl, rfl, rfl, rfl, trivial⟩⟩
  · have Hq := Lib.hid (show true = many2 (geta l k) by rw [Ho.out, e1]; rfl)
    go_wp2_with fail
    refine Met.intro (hS _ _ ?_)
    exact ⟨HC.out, hM, Fr.of _ rfl ⟨by rw [← Hq.out]; rfl, rfl, rfl, rfl, rfl, rfl, rfl, trivial⟩⟩

set_option maxRecDepth 100000 in
set_option maxHeartbeats 1000000 in
theorem rp_many (v : Value) (l : List RuleL) (w0 : World) (k : Int) (g : Nat) (hz : ∀ r ∈ l, RuleOk r) (hl : ¬ 100 < l.length) : T3 Try.prog (fun a w => (false = kindB (geta l k) ∧ false = orderB l k ∧ false = nameB (geta l k)) ∧ Mw w0 l k g w ∧ Fr 87 ([(5, .bool (many2 (geta l k))), (0, v), (10, v), (11, .int .i64 l.length), (12, .int .i64 k), (3, .int .i64 k), (4, .pointer (some ⟨g, 0, none⟩))]) a) (sel [1, 1, 0, 1, 4, 4, 1, 1, 0, 4, 1, 1, 1, 0, 0] rulesP)
    (fun a w => ∃ q, Fr 87 ((79, .bool q) :: [(0, v), (10, v), (11, .int .i64 l.length), (12, .int .i64 k), (3, .int .i64 k), (4, .pointer (some ⟨g, 0, none⟩))]) a ∧ ((q = manyBad (geta l k) ∧ false = kindB (geta l k) ∧ false = orderB l k ∧ false = nameB (geta l k)) ∧ Mw w0 l k g w)) No 0
    (fun a w => Fr 87 [(2, .int .i64 (rulesE l))] a ∧ Below w0.heap.size w0 w) := by
  refine T3.leaf ?_
  rintro Q JS JX JT K hS hK hX hE hT hR a w ⟨hC, hM, ⟨f, rfl, q5, q0, q10, q11, q12, q3, q4, _⟩⟩
  have HC := Lib.hid hC
  clear hC
  have hr := hz _ (geta_mem hM.k0 hM.k1)
  have hk0 := hM.k0
  have hk1 := hM.k1
  have hcp := hM.copy.2
  rw [frame87, show f 5 = .bool (many2 (geta l k)) from q5, show f 0 = v from q0, show f 10 = v from q10, show f 11 = .int .i64 l.length from q11, show f 12 = .int .i64 k from q12, show f 3 = .int .i64 k from q3, show f 4 = .pointer (some ⟨g, 0, none⟩) from q4]
  clear q5 q0 q10 q11 q12 q3 q4
  conv => arg 2; whnf
  have c4 := hcp 4 _ rfl
  clear hcp hr
  have Hm := Lib.hid (show manyBad (geta l k) = if many2 (geta l k) = true then outB (geta l k).many 1 100000 else (geta l k).many != 0 from rfl)
  generalize (geta l k).many = n1 at *
  cases hm2 : many2 (geta l k)
  · cases hn : (n1 != 0)
    · have Hq := Lib.hid (show false = manyBad (geta l k) by rw [Hm.out, hm2, hn]; rfl)
      go_wp2_with fail
      refine Met.intro (hS _ _ ?_)
      exact ⟨false, Fr.of _ rfl ⟨rfl, rfl, rfl, rfl, rfl, rfl, rfl, trivial⟩, ⟨Hq.out, HC.out⟩, hM⟩
    · have Hq := Lib.hid (show true = manyBad (geta l k) by rw [Hm.out, hm2, hn]; rfl)
      go_wp2_with fail
      refine Met.intro (hS _ _ ?_)
      exact ⟨true, Fr.of _ rfl ⟨rfl, rfl, rfl, rfl, rfl, rfl, rfl, trivial⟩, ⟨Hq.out, HC.out⟩, hM⟩
  · cases ho : outB n1 1 100000
    · have Hq := Lib.hid (show false = manyBad (geta l k) by rw [Hm.out, hm2, ho]; rfl)
      have ho := Lib.hid ho
      go_wp2_with (go_at_call 91; refine (out_is _ _ _ _ ho.out _).mono ?_; rintro e w1 ⟨rfl, rfl⟩)
      refine Met.intro (hS _ _ ?_)
      exact ⟨false, Fr.of _ rfl ⟨rfl, rfl, rfl, rfl, rfl, rfl, rfl, trivial⟩, ⟨Hq.out, HC.out⟩, hM⟩
    · have Hq := Lib.hid (show true = manyBad (geta l k) by rw [Hm.out, hm2, ho]; rfl)
      have ho := Lib.hid ho
      go_wp2_with (go_at_call 91; refine (out_is _ _ _ _ ho.out _).mono ?_; rintro e w1 ⟨rfl, rfl⟩)
      refine Met.intro (hS _ _ ?_)
      exact ⟨true, Fr.of _ rfl ⟨rfl, rfl, rfl, rfl, rfl, rfl, rfl, trivial⟩, ⟨Hq.out, HC.out⟩, hM⟩

set_option maxRecDepth 100000 in
set_option maxHeartbeats 1000000 in
theorem rp_many1 (v : Value) (l : List RuleL) (w0 : World) (k : Int) (g : Nat) (hz : ∀ r ∈ l, RuleOk r) (hl : ¬ 100 < l.length) : T3 Try.prog (fun a w => Fr 87 ((79, .bool true) :: [(0, v), (10, v), (11, .int .i64 l.length), (12, .int .i64 k), (3, .int .i64 k), (4, .pointer (some ⟨g, 0, none⟩))]) a ∧ (true = manyBad (geta l k) ∧ false = kindB (geta l k) ∧ false = orderB l k ∧ false = nameB (geta l k)) ∧ Mw w0 l k g w) (sel [1, 1, 0, 1, 4, 4, 1, 1, 0, 4, 1, 1, 1, 0, 1, 2] rulesP) No No 0 (fun a w => Fr 87 [(2, .int .i64 (rulesE l))] a ∧ Below w0.heap.size w0 w) := by
  refine T3.leaf ?_
  rintro Q JS JX JT K hS hK hX hE hT hR a w ⟨⟨f, rfl, q79, q0, q10, q11, q12, q3, q4, _⟩, hC, hM⟩
  have Hv := Lib.hid (show ruleAt l k = 1 by unfold ruleAt; rw [if_neg (by rw [← hC.2.2.2]; decide), if_neg (by rw [← hC.2.2.1]; decide), if_neg (by rw [← hC.2.1]; decide), if_pos hC.1.symm])
  have He := Lib.hid (hM.ends hl (by rw [Hv.out]; decide))
  have hb := hM.bel
  clear hC
  rw [frame87, show f 79 = .bool true from q79, show f 0 = v from q0, show f 10 = v from q10, show f 11 = .int .i64 l.length from q11, show f 12 = .int .i64 k from q12, show f 3 = .int .i64 k from q3, show f 4 = .pointer (some ⟨g, 0, none⟩) from q4]
  clear q79 q0 q10 q11 q12 q3 q4
  conv => arg 2; whnf
  go_wp2_with fail
  refine Met.intro (hT _ _ ?_)
  exact ⟨Fr.of _ rfl ⟨by rw [He.out, Hv.out]; rfl, trivial⟩, hb⟩

set_option maxRecDepth 100000 in
set_option maxHeartbeats 1000000 in
theorem rp_amt (v : Value) (l : List RuleL) (w0 : World) (k : Int) (g : Nat) (hz : ∀ r ∈ l, RuleOk r) (hl : ¬ 100 < l.length) : T3 Try.prog (fun a w => (false = manyBad (geta l k) ∧ false = kindB (geta l k) ∧ false = orderB l k ∧ false = nameB (geta l k)) ∧ Mw w0 l k g w ∧ Fr 87 ([(0, v), (10, v), (11, .int .i64 l.length), (12, .int .i64 k), (3, .int .i64 k), (4, .pointer (some ⟨g, 0, none⟩))]) a) (sel [1, 1, 0, 1, 4, 4, 1, 1, 0, 4, 1, 1, 1, 1, 0] rulesP)
    (fun a w => (false = manyBad (geta l k) ∧ false = kindB (geta l k) ∧ false = orderB l k ∧ false = nameB (geta l k)) ∧ Mw w0 l k g w ∧ Fr 87 ((6, .int .i64 (amountE (geta l k).num (geta l k).den 10000)) :: [(0, v), (10, v), (11, .int .i64 l.length), (12, .int .i64 k), (3, .int .i64 k), (4, .pointer (some ⟨g, 0, none⟩))]) a) No 0
    (fun a w => Fr 87 [(2, .int .i64 (rulesE l))] a ∧ Below w0.heap.size w0 w) := by
  refine T3.leaf ?_
  rintro Q JS JX JT K hS hK hX hE hT hR a w ⟨hC, hM, ⟨f, rfl, q0, q10, q11, q12, q3, q4, _⟩⟩
  have HC := Lib.hid hC
  clear hC
  have hr := hz _ (geta_mem hM.k0 hM.k1)
  have hk0 := hM.k0
  have hk1 := hM.k1
  have hcp := hM.copy.2
  rw [frame87, show f 0 = v from q0, show f 10 = v from q10, show f 11 = .int .i64 l.length from q11, show f 12 = .int .i64 k from q12, show f 3 = .int .i64 k from q3, show f 4 = .pointer (some ⟨g, 0, none⟩) from q4]
  clear q0 q10 q11 q12 q3 q4
  conv => arg 2; whnf
  have c5 := hcp 5 _ rfl
  have c6 := hcp 6 _ rfl
  clear hcp
  have y0 := hr.num0
  have y1 := hr.num1
  have y2 := hr.den0
  have y3 := hr.den1
  clear hr
  generalize (geta l k).num = n1 at *
  generalize (geta l k).den = n2 at *
  go_wp2_with (go_at_call 82; refine (amount_prog n1 n2 10000 _ y0 y1 y2 y3 (by decide) (by decide)).mono ?_; rintro e w1 ⟨rfl, hb⟩; replace hM := hM.below hb; clear hb)
  refine Met.intro (hS _ _ ?_)
  exact ⟨HC.out, hM, Fr.of _ rfl ⟨rfl, rfl, rfl, rfl, rfl, rfl, rfl, trivial⟩⟩

set_option maxRecDepth 100000 in
set_option maxHeartbeats 1000000 in
theorem rp_amt2 (v : Value) (l : List RuleL) (w0 : World) (k : Int) (g : Nat) (hz : ∀ r ∈ l, RuleOk r) (hl : ¬ 100 < l.length) : T3 Try.prog (fun a w => (false = manyBad (geta l k) ∧ false = kindB (geta l k) ∧ false = orderB l k ∧ false = nameB (geta l k)) ∧ Mw w0 l k g w ∧ Fr 87 ([(6, .int .i64 (amountE (geta l k).num (geta l k).den 10000)), (0, v), (10, v), (11, .int .i64 l.length), (12, .int .i64 k), (3, .int .i64 k), (4, .pointer (some ⟨g, 0, none⟩))]) a) (sel [1, 1, 0, 1, 4, 4, 1, 1, 0, 4, 1, 1, 1, 1, 1, 0] rulesP)
    (fun a w => ∃ q, Fr 87 ((84, .bool q) :: [(6, .int .i64 (amountE (geta l k).num (geta l k).den 10000)), (0, v), (10, v), (11, .int .i64 l.length), (12, .int .i64 k), (3, .int .i64 k), (4, .pointer (some ⟨g, 0, none⟩))]) a ∧ (((q = true ↔ (amountE (geta l k).num (geta l k).den 10000) ≠ 0) ∧ false = manyBad (geta l k) ∧ false = kindB (geta l k) ∧ false = orderB l k ∧ false = nameB (geta l k)) ∧ Mw w0 l k g w)) No 0
    (fun a w => Fr 87 [(2, .int .i64 (rulesE l))] a ∧ Below w0.heap.size w0 w) := by
  refine T3.leaf ?_
  rintro Q JS JX JT K hS hK hX hE hT hR a w ⟨hC, hM, ⟨f, rfl, q6, q0, q10, q11, q12, q3, q4, _⟩⟩
  have HC := Lib.hid hC
  clear hC
  have hr := hz _ (geta_mem hM.k0 hM.k1)
  have hk0 := hM.k0
  have hk1 := hM.k1
  have hcp := hM.copy.2
  rw [frame87, show f 6 = .int .i64 (amountE (geta l k).num (geta l k).den 10000) from q6, show f 0 = v from q0, show f 10 = v from q10, show f 11 = .int .i64 l.length from q11, show f 12 = .int .i64 k from q12, show f 3 = .int .i64 k from q3, show f 4 = .pointer (some ⟨g, 0, none⟩) from q4]
  clear q6 q0 q10 q11 q12 q3 q4
  conv => arg 2; whnf
  clear hcp hr
  generalize hx : amountE (geta l k).num (geta l k).den 10000 = x at *
  have Hx := Lib.hid hx
  clear hx
  cases hn : (x != 0)
  · have Hq := Lib.hid (show x = 0 by simpa using hn)
    go_wp2_with fail
    refine Met.intro (hS _ _ ?_)
    exact ⟨false, Fr.of _ rfl ⟨rfl, rfl, rfl, rfl, rfl, rfl, rfl, rfl, trivial⟩, ⟨by simpa using Hq.out, HC.out⟩, hM⟩
  · have Hq := Lib.hid (show x ≠ 0 by simpa using hn)
    go_wp2_with fail
    refine Met.intro (hS _ _ ?_)
    exact ⟨true, Fr.of _ rfl ⟨rfl, rfl, rfl, rfl, rfl, rfl, rfl, rfl, trivial⟩, ⟨by simpa using Hq.out, HC.out⟩, hM⟩

set_option maxRecDepth 100000 in
set_option maxHeartbeats 1000000 in
theorem rp_amtR (v : Value) (l : List RuleL) (w0 : World) (k : Int) (g : Nat) (hz : ∀ r ∈ l, RuleOk r) (hl : ¬ 100 < l.length) : T3 Try.prog (fun a w => Fr 87 ((84, .bool true) :: [(6, .int .i64 (amountE (geta l k).num (geta l k).den 10000)), (0, v), (10, v), (11, .int .i64 l.length), (12, .int .i64 k), (3, .int .i64 k), (4, .pointer (some ⟨g, 0, none⟩))]) a ∧ ((amountE (geta l k).num (geta l k).den 10000) ≠ 0 ∧ false = manyBad (geta l k) ∧ false = kindB (geta l k) ∧ false = orderB l k ∧ false = nameB (geta l k)) ∧ Mw w0 l k g w) (sel [1, 1, 0, 1, 4, 4, 1, 1, 0, 4, 1, 1, 1, 1, 1, 1, 2] rulesP) No No 0 (fun a w => Fr 87 [(2, .int .i64 (rulesE l))] a ∧ Below w0.heap.size w0 w) := by
  refine T3.leaf ?_
  rintro Q JS JX JT K hS hK hX hE hT hR a w ⟨⟨f, rfl, q84, q6, q0, q10, q11, q12, q3, q4, _⟩, hC, hM⟩
  have hC1 := hC.1
  have Hv := Lib.hid (show ruleAt l k = (amountE (geta l k).num (geta l k).den 10000) by unfold ruleAt; rw [if_neg (by rw [← hC.2.2.2.2]; decide), if_neg (by rw [← hC.2.2.2.1]; decide), if_neg (by rw [← hC.2.2.1]; decide), if_neg (by rw [← hC.2.1]; decide)])
  have He := Lib.hid (hM.ends hl (by rw [Hv.out]; exact hC1))
  have hb := hM.bel
  clear hC hC1
  rw [frame87, show f 84 = .bool true from q84, show f 6 = .int .i64 (amountE (geta l k).num (geta l k).den 10000) from q6, show f 0 = v from q0, show f 10 = v from q10, show f 11 = .int .i64 l.length from q11, show f 12 = .int .i64 k from q12, show f 3 = .int .i64 k from q3, show f 4 = .pointer (some ⟨g, 0, none⟩) from q4]
  clear q84 q6 q0 q10 q11 q12 q3 q4
  conv => arg 2; whnf
  go_wp2_with fail
  refine Met.intro (hT _ _ ?_)
  exact ⟨Fr.of _ rfl ⟨by rw [He.out, Hv.out]; rfl, trivial⟩, hb⟩

def rpI (v : Value) (l : List RuleL) (w0 : World) (k : Int) (a : Act) (w : World) : Prop := (0 ≤ k ∧ k ≤ l.length ∧ NoErr (ruleAt l) k) ∧ Below w0.heap.size w0 w ∧ Fr 87 [(0, v), (10, v), (11, .int .i64 l.length), (12, .int .i64 k)] a
set_option maxRecDepth 100000 in
set_option maxHeartbeats 1000000 in
theorem rp_next (v : Value) (l : List RuleL) (w0 : World) (k : Int) (h100 : ¬ 100 < l.length) : T3 Try.prog (fun a w => (0 ≤ k ∧ k < l.length ∧ NoErr (ruleAt l) (k + 1)) ∧ Below w0.heap.size w0 w ∧ Fr 87 [(0, v), (10, v), (11, .int .i64 l.length), (12, .int .i64 k)] a) (sel [1, 1, 0, 1, 4, 4, 1, 1, 1] rulesP) (rpI v l w0 (k + 1)) No 0 (fun a w => Fr 87 [(2, .int .i64 (rulesE l))] a ∧ Below w0.heap.size w0 w) := by
  refine T3.leaf ?_
  rintro Q JS JX JT K hS hK hX hE hT hR a w ⟨⟨hk0, hk1, hst⟩, hb, ⟨f, rfl, q0, q10, q11, q12, _⟩⟩
  have hst := Lib.hid hst
  rw [frame87, show f 0 = v from q0, show f 10 = v from q10, show f 11 = .int .i64 l.length from q11, show f 12 = .int .i64 k from q12]
  clear q0 q10 q11 q12
  conv => arg 2; whnf
  go_wp2_with fail
  refine Met.intro (hS _ _ ?_)
  exact ⟨⟨by omega, by omega, hst.out⟩, hb, Fr.of _ rfl ⟨rfl, rfl, rfl, rfl, trivial⟩⟩

theorem rp_last (v : Value) (l : List RuleL) (w0 : World) (k : Int) (g : Nat) (hz : ∀ r ∈ l, RuleOk r) (hl : ¬ 100 < l.length) (a : Act) (w : World) (h : ((amountE (geta l k).num (geta l k).den 10000) = 0 ∧ false = manyBad (geta l k) ∧ false = kindB (geta l k) ∧ false = orderB l k ∧ false = nameB (geta l k)) ∧ Mw w0 l k g w ∧ Fr 87 [(6, .int .i64 (amountE (geta l k).num (geta l k).den 10000)), (0, v), (10, v), (11, .int .i64 l.length), (12, .int .i64 k), (3, .int .i64 k), (4, .pointer (some ⟨g, 0, none⟩))] a) : (0 ≤ k ∧ k < l.length ∧ NoErr (ruleAt l) (k + 1)) ∧ Below w0.heap.size w0 w ∧ Fr 87 [(0, v), (10, v), (11, .int .i64 l.length), (12, .int .i64 k)] a := by
  obtain ⟨hC, hM, hF⟩ := h
  have ha : ruleAt l k = 0 := by
    unfold ruleAt; rw [if_neg (by rw [← hC.2.2.2.2]; decide), if_neg (by rw [← hC.2.2.2.1]; decide), if_neg (by rw [← hC.2.2.1]; decide), if_neg (by rw [← hC.2.1]; decide)]
    exact hC.1
  have hst := Lib.hid (hM.ok.step ha)
  have hk0 := hM.k0
  have hk1 := hM.k1
  have hb := hM.bel
  exact ⟨⟨hk0, hk1, hst.out⟩, hb, hF.sub (by intro p hp; simp at hp ⊢; rcases hp with h | h | h | h <;> simp [h])⟩

set_option maxRecDepth 100000 in
set_option maxHeartbeats 1000000 in
theorem rp_head (v : Value) (l : List RuleL) (w0 : World) (k : Int) : T3 Try.prog (rpI v l w0 k) (sel [1, 1, 0, 1, 4, 4, 0] rulesP) (fun a w => ∃ q, Fr 87 ((13, .bool q) :: [(0, v), (10, v), (11, .int .i64 l.length), (12, .int .i64 k)]) a ∧ ((q = true ↔ k < l.length) ∧ (0 ≤ k ∧ k ≤ l.length ∧ NoErr (ruleAt l) k) ∧ Below w0.heap.size w0 w)) No 0 (fun a w => Fr 87 [(2, .int .i64 (rulesE l))] a ∧ Below w0.heap.size w0 w) := by
  refine T3.leaf ?_
  rintro Q JS JX JT K hS hK hX hE hT hR a w ⟨hC, hb, ⟨f, rfl, q0, q10, q11, q12, _⟩⟩
  have HC := Lib.hid hC
  rw [frame87, show f 0 = v from q0, show f 10 = v from q10, show f 11 = .int .i64 l.length from q11, show f 12 = .int .i64 k from q12]
  clear q0 q10 q11 q12
  conv => arg 2; whnf
  by_cases hlt : k < l.length
  · go_wp2_with fail
    refine Met.intro (hS _ _ ?_)
    exact ⟨true, Fr.of _ rfl ⟨rfl, rfl, rfl, rfl, rfl, trivial⟩, ⟨fun _ => hlt, fun _ => rfl⟩, HC.out, hb⟩
  · have hpb : decide (k < l.length) = false := by simp; omega
    go_wp2_with fail
    refine Met.intro (hS _ _ ?_)
    exact ⟨false, Fr.of _ rfl ⟨rfl, rfl, rfl, rfl, rfl, trivial⟩, ⟨(fun h => by cases h), fun h => absurd h (by omega)⟩, HC.out, hb⟩

set_option maxRecDepth 100000 in
set_option maxHeartbeats 1000000 in
theorem rp_copy (v : Value) (l : List RuleL) (w0 : World) (k : Int) (hz : ∀ r ∈ l, RuleOk r)  (hrow : l.length = 0 ∨ ∃ b off cap, v = .slice (some ⟨b, off, none⟩) l.length cap ∧ b < w0.heap.size ∧ (l.length ≤ cap ∧ cap ≤ 9223372036854775807) ∧ ∀ i : Int, 0 ≤ i → i < l.length → ∀ j u, (encR (geta l i))[j]? = some u → w0.cell? ⟨b, off + i.toNat * 7 + j, none⟩ = some u) : T3 Try.prog (fun a w => k < l.length ∧ rpI v l w0 k a w) (sel [1, 1, 0, 1, 4, 4, 1, 1, 0, 4, 0] rulesP) (fun a w => ∃ g : Nat, True ∧ Mw w0 l k g w ∧ Fr 87 [(0, v), (10, v), (11, .int .i64 l.length), (12, .int .i64 k), (3, .int .i64 k), (4, .pointer (some ⟨g, 0, none⟩))] a) No 0 (fun a w => Fr 87 [(2, .int .i64 (rulesE l))] a ∧ Below w0.heap.size w0 w) := by
  refine T3.leaf ?_
  rintro Q JS JX JT K hS hK hX hE hT hR a w ⟨hlt, ⟨hk0, hk1, hok⟩, hb, ⟨f, rfl, q0, q10, q11, q12, _⟩⟩
  rw [frame87, show f 0 = v from q0, show f 10 = v from q10, show f 11 = .int .i64 l.length from q11, show f 12 = .int .i64 k from q12]
  clear q0 q10 q11 q12
  conv => arg 2; whnf
  rcases hrow with hrow | ⟨b, off, cap, rfl, hbs, hcm, hcell⟩
  · omega
  have tr : ∀ j u, (encR (geta l k))[j]? = some u → w.cell? ⟨b, off + k.toNat * 7 + j, none⟩ = some u := fun j u h => (hb.cell (p := ⟨b, off + k.toNat * 7 + j, none⟩) hbs).trans (hcell k hk0 hlt j u h)
  have t0 := tr 0 _ rfl
  have t1 := tr 1 _ rfl
  have t2 := tr 2 _ rfl
  have t3 := tr 3 _ rfl
  have t4 := tr 4 _ rfl
  have t5 := tr 5 _ rfl
  have t6 := tr 6 _ rfl
  rw [Nat.add_zero] at t0
  have hM : Mw w0 l k w.heap.size (w.alloc (.cells (encR (geta l k)).toArray 86)) := ⟨hk0, hlt, hok, ⟨by simp, fun j u hu => cells_new w (encR (geta l k)).toArray 86 j u (by simpa using hu)⟩, hb.alloc hb.size _⟩
  have HM := Lib.hid hM
  unfold encR at HM
  clear hM tr hcell hok
  generalize (geta l k).key = s0 at *
  generalize (geta l k).stat = s1 at *
  generalize (geta l k).pos = s2 at *
  generalize (geta l k).kind = n0 at *
  generalize (geta l k).many = n1 at *
  generalize (geta l k).num = n2 at *
  generalize (geta l k).den = n3 at *
  go_wp2_with fail
  refine Met.intro (hS _ _ ?_)
  exact ⟨_, trivial, HM.out, Fr.of _ rfl ⟨rfl, rfl, rfl, rfl, rfl, rfl, trivial⟩⟩

set_option maxRecDepth 100000 in
set_option maxHeartbeats 1000000 in
theorem rp_sw (v : Value) (l : List RuleL) (w0 : World) (k : Int) (g : Nat) (hz : ∀ r ∈ l, RuleOk r) (hl : ¬ 100 < l.length) (hrow : l.length = 0 ∨ ∃ b off cap, v = .slice (some ⟨b, off, none⟩) l.length cap ∧ b < w0.heap.size ∧ (l.length ≤ cap ∧ cap ≤ 9223372036854775807) ∧ ∀ i : Int, 0 ≤ i → i < l.length → ∀ j u, (encR (geta l i))[j]? = some u → w0.cell? ⟨b, off + i.toNat * 7 + j, none⟩ = some u) : T3 Try.prog (fun a w => True ∧ Mw w0 l k g w ∧ Fr 87 [(0, v), (10, v), (11, .int .i64 l.length), (12, .int .i64 k), (3, .int .i64 k), (4, .pointer (some ⟨g, 0, none⟩))] a) (sel [1, 1, 0, 1, 4, 4, 1, 1, 0, 4, 1, 0, 4] rulesP) (fun a w => (false = kindB (geta l k) ∧ false = orderB l k ∧ false = nameB (geta l k)) ∧ Mw w0 l k g w ∧ Fr 87 [(0, v), (10, v), (11, .int .i64 l.length), (12, .int .i64 k), (3, .int .i64 k), (4, .pointer (some ⟨g, 0, none⟩))] a) No 0 (fun a w => Fr 87 [(2, .int .i64 (rulesE l))] a ∧ Below w0.heap.size w0 w) :=
  T3.test (s := (sel [1, 1, 0, 1, 4, 4, 1, 1, 0, 4, 1, 0, 4, 0] rulesP)) (x := (sel [1, 1, 0, 1, 4, 4, 1, 1, 0, 4, 1, 0, 4, 1, 2] rulesP)) (y := (sel [1, 1, 0, 1, 4, 4, 1, 1, 0, 4, 1, 0, 4, 1, 3] rulesP)) (l := [(0, v), (10, v), (11, .int .i64 l.length), (12, .int .i64 k), (3, .int .i64 k), (4, .pointer (some ⟨g, 0, none⟩))]) (C := fun q => q = nameB (geta l k)) (W := Mw w0 l k g) (by decide) (rp_name v l w0 k g hz hl) (T3.noS (rp_name5 v l w0 k g hz hl)) (T3.test (s := (sel [1, 1, 0, 1, 4, 4, 1, 1, 0, 4, 1, 0, 4, 1, 3, 0] rulesP)) (x := (sel [1, 1, 0, 1, 4, 4, 1, 1, 0, 4, 1, 0, 4, 1, 3, 1, 2] rulesP)) (y := (sel [1, 1, 0, 1, 4, 4, 1, 1, 0, 4, 1, 0, 4, 1, 3, 1, 3] rulesP)) (l := [(0, v), (10, v), (11, .int .i64 l.length), (12, .int .i64 k), (3, .int .i64 k), (4, .pointer (some ⟨g, 0, none⟩))]) (C := fun q => q = orderB l k ∧ false = nameB (geta l k)) (W := Mw w0 l k g) (by decide) (rp_order v l w0 k g hz hl hrow) (T3.noS (rp_order7 v l w0 k g hz hl)) (T3.test (s := (sel [1, 1, 0, 1, 4, 4, 1, 1, 0, 4, 1, 0, 4, 1, 3, 1, 3, 0] rulesP)) (x := (sel [1, 1, 0, 1, 4, 4, 1, 1, 0, 4, 1, 0, 4, 1, 3, 1, 3, 1, 2] rulesP)) (y := .skip) (l := [(0, v), (10, v), (11, .int .i64 l.length), (12, .int .i64 k), (3, .int .i64 k), (4, .pointer (some ⟨g, 0, none⟩))]) (C := fun q => q = kindB (geta l k) ∧ false = orderB l k ∧ false = nameB (geta l k)) (W := Mw w0 l k g) (by decide) (rp_kind v l w0 k g hz hl) (T3.noS (rp_kind4 v l w0 k g hz hl)) (T3.skip (fun a w q => q))))

set_option maxRecDepth 100000 in
set_option maxHeartbeats 1000000 in
theorem rp_end (v : Value) (l : List RuleL) (w0 : World) (k : Int) (g : Nat) (hz : ∀ r ∈ l, RuleOk r) (hl : ¬ 100 < l.length) : T3 Try.prog (fun a w => (false = manyBad (geta l k) ∧ false = kindB (geta l k) ∧ false = orderB l k ∧ false = nameB (geta l k)) ∧ Mw w0 l k g w ∧ Fr 87 [(0, v), (10, v), (11, .int .i64 l.length), (12, .int .i64 k), (3, .int .i64 k), (4, .pointer (some ⟨g, 0, none⟩))] a) (sel [1, 1, 0, 1, 4, 4, 1, 1, 0, 4, 1, 1, 1, 1] rulesP) (fun a w => ((amountE (geta l k).num (geta l k).den 10000) = 0 ∧ false = manyBad (geta l k) ∧ false = kindB (geta l k) ∧ false = orderB l k ∧ false = nameB (geta l k)) ∧ Mw w0 l k g w ∧ Fr 87 [(6, .int .i64 (amountE (geta l k).num (geta l k).den 10000)), (0, v), (10, v), (11, .int .i64 l.length), (12, .int .i64 k), (3, .int .i64 k), (4, .pointer (some ⟨g, 0, none⟩))] a) No 0 (fun a w => Fr 87 [(2, .int .i64 (rulesE l))] a ∧ Below w0.heap.size w0 w) := by
  refine T3.post (S := fun a w => ((false = true ↔ (amountE (geta l k).num (geta l k).den 10000) ≠ 0) ∧ false = manyBad (geta l k) ∧ false = kindB (geta l k) ∧ false = orderB l k ∧ false = nameB (geta l k)) ∧ Mw w0 l k g w ∧ Fr 87 [(6, .int .i64 (amountE (geta l k).num (geta l k).den 10000)), (0, v), (10, v), (11, .int .i64 l.length), (12, .int .i64 k), (3, .int .i64 k), (4, .pointer (some ⟨g, 0, none⟩))] a) (T3.seq (s := (sel [1, 1, 0, 1, 4, 4, 1, 1, 0, 4, 1, 1, 1, 1, 0] rulesP)) (c := (sel [1, 1, 0, 1, 4, 4, 1, 1, 0, 4, 1, 1, 1, 1, 1] rulesP)) (rp_amt v l w0 k g hz hl) (T3.test (s := (sel [1, 1, 0, 1, 4, 4, 1, 1, 0, 4, 1, 1, 1, 1, 1, 0] rulesP)) (x := (sel [1, 1, 0, 1, 4, 4, 1, 1, 0, 4, 1, 1, 1, 1, 1, 1, 2] rulesP)) (y := .skip) (l := [(6, .int .i64 (amountE (geta l k).num (geta l k).den 10000)), (0, v), (10, v), (11, .int .i64 l.length), (12, .int .i64 k), (3, .int .i64 k), (4, .pointer (some ⟨g, 0, none⟩))]) (C := fun q => (q = true ↔ (amountE (geta l k).num (geta l k).den 10000) ≠ 0) ∧ false = manyBad (geta l k) ∧ false = kindB (geta l k) ∧ false = orderB l k ∧ false = nameB (geta l k)) (W := Mw w0 l k g) (by decide) (rp_amt2 v l w0 k g hz hl) (T3.noS ((rp_amtR v l w0 k g hz hl).pre (fun a w q => ⟨q.1, ⟨q.2.1.1.1 rfl, q.2.1.2⟩, q.2.2⟩))) (T3.skip (fun a w q => q)))) (fun a w q => ?_)
  obtain ⟨hC, hM, hF⟩ := q
  have hA : (amountE (geta l k).num (geta l k).den 10000) = 0 := by
    by_cases h : (amountE (geta l k).num (geta l k).den 10000) = 0
    · exact h
    · have := hC.1.2 h
      cases this
  exact ⟨⟨hA, hC.2⟩, hM, hF⟩

set_option maxRecDepth 100000 in
set_option maxHeartbeats 1000000 in
theorem rp_round (v : Value) (l : List RuleL) (w0 : World) (k : Int) (hz : ∀ r ∈ l, RuleOk r) (hl : ¬ 100 < l.length) (hrow : l.length = 0 ∨ ∃ b off cap, v = .slice (some ⟨b, off, none⟩) l.length cap ∧ b < w0.heap.size ∧ (l.length ≤ cap ∧ cap ≤ 9223372036854775807) ∧ ∀ i : Int, 0 ≤ i → i < l.length → ∀ j u, (encR (geta l i))[j]? = some u → w0.cell? ⟨b, off + i.toNat * 7 + j, none⟩ = some u) : T3 Try.prog (fun a w => k < l.length ∧ rpI v l w0 k a w) (sel [1, 1, 0, 1, 4, 4, 1, 1, 0, 4] rulesP) (fun a w => (0 ≤ k ∧ k < l.length ∧ NoErr (ruleAt l) (k + 1)) ∧ Below w0.heap.size w0 w ∧ Fr 87 [(0, v), (10, v), (11, .int .i64 l.length), (12, .int .i64 k)] a) No 0 (fun a w => Fr 87 [(2, .int .i64 (rulesE l))] a ∧ Below w0.heap.size w0 w) :=
  T3.seq (s := (sel [1, 1, 0, 1, 4, 4, 1, 1, 0, 4, 0] rulesP)) (c := (sel [1, 1, 0, 1, 4, 4, 1, 1, 0, 4, 1] rulesP)) (rp_copy v l w0 k hz hrow) (T3.ex fun g => T3.seq (s := (sel [1, 1, 0, 1, 4, 4, 1, 1, 0, 4, 1, 0] rulesP)) (c := (sel [1, 1, 0, 1, 4, 4, 1, 1, 0, 4, 1, 1] rulesP)) (T3.block (c := (sel [1, 1, 0, 1, 4, 4, 1, 1, 0, 4, 1, 0, 4] rulesP)) (by decide) (rp_sw v l w0 k g hz hl hrow)) (T3.seq (s := (sel [1, 1, 0, 1, 4, 4, 1, 1, 0, 4, 1, 1, 0] rulesP)) (c := (sel [1, 1, 0, 1, 4, 4, 1, 1, 0, 4, 1, 1, 1] rulesP)) (rp_m2 v l w0 k g hz hl) (T3.seq (s := (sel [1, 1, 0, 1, 4, 4, 1, 1, 0, 4, 1, 1, 1, 0] rulesP)) (c := (sel [1, 1, 0, 1, 4, 4, 1, 1, 0, 4, 1, 1, 1, 1] rulesP)) (T3.test (s := (sel [1, 1, 0, 1, 4, 4, 1, 1, 0, 4, 1, 1, 1, 0, 0] rulesP)) (x := (sel [1, 1, 0, 1, 4, 4, 1, 1, 0, 4, 1, 1, 1, 0, 1, 2] rulesP)) (y := .skip) (l := [(0, v), (10, v), (11, .int .i64 l.length), (12, .int .i64 k), (3, .int .i64 k), (4, .pointer (some ⟨g, 0, none⟩))]) (C := fun q => q = manyBad (geta l k) ∧ false = kindB (geta l k) ∧ false = orderB l k ∧ false = nameB (geta l k)) (W := Mw w0 l k g) (by decide) (rp_many v l w0 k g hz hl) (T3.noS (rp_many1 v l w0 k g hz hl)) (T3.skip (fun a w q => q))) ((rp_end v l w0 k g hz hl).post (fun a w q => rp_last v l w0 k g hz hl a w q)))))

set_option maxRecDepth 100000 in
set_option maxHeartbeats 1000000 in
theorem rp_loop (v : Value) (l : List RuleL) (w0 : World) (hz : ∀ r ∈ l, RuleOk r) (hl : ¬ 100 < l.length) (hrow : l.length = 0 ∨ ∃ b off cap, v = .slice (some ⟨b, off, none⟩) l.length cap ∧ b < w0.heap.size ∧ (l.length ≤ cap ∧ cap ≤ 9223372036854775807) ∧ ∀ i : Int, 0 ≤ i → i < l.length → ∀ j u, (encR (geta l i))[j]? = some u → w0.cell? ⟨b, off + i.toNat * 7 + j, none⟩ = some u) : T3 Try.prog (rpI v l w0 0) (sel [1, 1, 0, 1] rulesP) (rpI v l w0 l.length) No 9 (fun a w => Fr 87 [(2, .int .i64 (rulesE l))] a ∧ Below w0.heap.size w0 w) := by
  refine T3.loop (c := (sel [1, 1, 0, 1, 4, 4] rulesP)) (fun n a w => ∃ k : Int, (n : Int) = l.length - k ∧ rpI v l w0 k a w) (fun a w h => ⟨l.length, 0, by omega, h⟩) (fun n => T3.ex fun k => T3.pure fun hn => ?_)
  refine T3.seq (s := (sel [1, 1, 0, 1, 4, 4, 0] rulesP)) (c := (sel [1, 1, 0, 1, 4, 4, 1] rulesP)) ((rp_head v l w0 k).noX) ?_
  refine T3.seq (s := (sel [1, 1, 0, 1, 4, 4, 1, 0] rulesP)) (c := (sel [1, 1, 0, 1, 4, 4, 1, 1] rulesP)) (S := fun a w => k < l.length ∧ rpI v l w0 k a w) ?_ (T3.seq (s := (sel [1, 1, 0, 1, 4, 4, 1, 1, 0] rulesP)) (c := (sel [1, 1, 0, 1, 4, 4, 1, 1, 1] rulesP)) (T3.noX (T3.block (c := (sel [1, 1, 0, 1, 4, 4, 1, 1, 0, 4] rulesP)) (by decide) (rp_round v l w0 k hz hl hrow))) ?_)
  · refine T3.iff (x := .skip) (y := .exit 0) (by decide) (T3.skip ?_) (T3.exit ?_)
    · rintro a w ⟨hF, hq, hC, hb⟩
      exact ⟨hq.1 rfl, hC, hb, hF.tail⟩
    · rintro a w ⟨hF, hq, hC, hb⟩
      have hk : k = l.length := by
        by_cases h : k < l.length
        · have := hq.2 h
          cases this
        · omega
      subst hk
      exact ⟨hC, hb, hF.tail⟩
  · refine (T3.pure (R := fun a w => Below w0.heap.size w0 w ∧ Fr 87 [(0, v), (10, v), (11, .int .i64 l.length), (12, .int .i64 k)] a) (p := 0 ≤ k ∧ k < l.length ∧ NoErr (ruleAt l) (k + 1)) fun hk => ?_)
    refine (((rp_next v l w0 k hl).pre (fun a w q => ⟨hk, q⟩)).noX).post (fun a w q => ?_)
    exact ⟨n - 1, by omega, k + 1, by omega, q⟩

set_option maxRecDepth 100000 in
set_option maxHeartbeats 1000000 in
theorem rp_s0 (v : Value) (l : List RuleL) (w0 : World) (p : Option Addr) (c : Nat) (hv : v = .slice p l.length c) : T3 Try.prog (fun a w => w = w0 ∧ Fr 87 [(0, v)] a) (sel [0] rulesP) (fun a w => w = w0 ∧ Fr 87 [(0, v)] a) No 9 (fun a w => Fr 87 [(2, .int .i64 (rulesE l))] a ∧ Below w0.heap.size w0 w) := by
  subst hv
  refine T3.leaf ?_
  rintro Q JS JX JT K hS hK hX hE hT hR a w ⟨hw, ⟨f, rfl, q0, _⟩⟩
  have Hw := Lib.hid hw
  clear hw
  rw [frame87, show f 0 = (.slice p l.length c) from q0]
  clear q0
  conv => arg 2; whnf
  go_wp2_with fail
  refine Met.intro (hS _ _ ?_)
  exact ⟨Hw.out, Fr.of _ rfl ⟨rfl, trivial⟩⟩

set_option maxRecDepth 100000 in
set_option maxHeartbeats 1000000 in
theorem rp_s1 (v : Value) (l : List RuleL) (w0 : World) (p : Option Addr) (c : Nat) (hv : v = .slice p l.length c) (hl : ¬ 100 < l.length) : T3 Try.prog (fun a w => w = w0 ∧ Fr 87 [(0, v)] a) (sel [1, 0, 0] rulesP) (fun a w => w = w0 ∧ Fr 87 [(9, .bool false), (0, v)] a) No 9 (fun a w => Fr 87 [(2, .int .i64 (rulesE l))] a ∧ Below w0.heap.size w0 w) := by
  subst hv
  have hdec : decide ((100 : Int) < l.length) = false := by simp; omega
  refine T3.leaf ?_
  rintro Q JS JX JT K hS hK hX hE hT hR a w ⟨hw, ⟨f, rfl, q0, _⟩⟩
  have Hw := Lib.hid hw
  clear hw
  rw [frame87, show f 0 = (.slice p l.length c) from q0]
  clear q0
  conv => arg 2; whnf
  go_wp2_with fail
  refine Met.intro (hS _ _ ?_)
  exact ⟨Hw.out, Fr.of _ rfl ⟨rfl, rfl, trivial⟩⟩

set_option maxRecDepth 100000 in
set_option maxHeartbeats 1000000 in
theorem rp_s3 (v : Value) (l : List RuleL) (w0 : World) (p : Option Addr) (c : Nat) (hv : v = .slice p l.length c) : T3 Try.prog (fun a w => w = w0 ∧ Fr 87 [(0, v)] a) (sel [1, 1, 0, 0] rulesP) (rpI v l w0 0) No 9 (fun a w => Fr 87 [(2, .int .i64 (rulesE l))] a ∧ Below w0.heap.size w0 w) := by
  subst hv
  refine T3.leaf ?_
  rintro Q JS JX JT K hS hK hX hE hT hR a w ⟨hw, ⟨f, rfl, q0, _⟩⟩
  have Hw := Lib.hid hw
  clear hw
  rw [frame87, show f 0 = (.slice p l.length c) from q0]
  clear q0
  conv => arg 2; whnf
  go_wp2_with fail
  refine Met.intro (hS _ _ ?_)
  exact ⟨⟨by omega, by omega, NoErr.zero _⟩, by rw [Hw.out]; exact Below.refl _ _, Fr.of _ rfl ⟨rfl, rfl, rfl, rfl, trivial⟩⟩

set_option maxRecDepth 100000 in
set_option maxHeartbeats 1000000 in
theorem rp_s9 (v : Value) (l : List RuleL) (w0 : World) (hl : ¬ 100 < l.length) : T3 Try.prog (rpI v l w0 l.length) (sel [1, 1, 1, 0] rulesP) (fun a w => Fr 87 [(2, .int .i64 (rulesE l))] a ∧ Below w0.heap.size w0 w) No 9 (fun a w => Fr 87 [(2, .int .i64 (rulesE l))] a ∧ Below w0.heap.size w0 w) := by
  refine T3.leaf ?_
  rintro Q JS JX JT K hS hK hX hE hT hR a w ⟨⟨_, _, hok⟩, hb, ⟨f, rfl, q0, q10, q11, q12, _⟩⟩
  have He := Lib.hid (show rulesE l = 0 by unfold rulesE; rw [if_neg hl]; exact firstErr_none hok)
  clear hok
  rw [frame87, show f 0 = v from q0, show f 10 = v from q10, show f 11 = .int .i64 l.length from q11, show f 12 = .int .i64 (l.length : Int) from q12]
  clear q0 q10 q11 q12
  conv => arg 2; whnf
  go_wp2_with fail
  refine Met.intro (hS _ _ ?_)
  exact ⟨Fr.of _ rfl ⟨by rw [He.out]; rfl, trivial⟩, hb⟩

set_option maxRecDepth 100000 in
set_option maxHeartbeats 1000000 in
theorem rp_all (v : Value) (l : List RuleL) (w0 : World) (p : Option Addr) (c : Nat) (hv : v = .slice p l.length c) (hz : ∀ r ∈ l, RuleOk r) (hl : ¬ 100 < l.length) (hrow : l.length = 0 ∨ ∃ b off cap, v = .slice (some ⟨b, off, none⟩) l.length cap ∧ b < w0.heap.size ∧ (l.length ≤ cap ∧ cap ≤ 9223372036854775807) ∧ ∀ i : Int, 0 ≤ i → i < l.length → ∀ j u, (encR (geta l i))[j]? = some u → w0.cell? ⟨b, off + i.toNat * 7 + j, none⟩ = some u) : T3 Try.prog (fun a w => w = w0 ∧ Fr 87 [(0, v)] a) rulesP No No 9 (fun a w => Fr 87 [(2, .int .i64 (rulesE l))] a ∧ Below w0.heap.size w0 w) := by
  refine T3.seq (s := (sel [0] rulesP)) (c := (sel [1] rulesP)) (rp_s0 v l w0 p c hv) ?_
  refine T3.seq (s := (sel [1, 0] rulesP)) (c := (sel [1, 1] rulesP)) (S := (fun a w => w = w0 ∧ Fr 87 [(0, v)] a)) (T3.seq (s := (sel [1, 0, 0] rulesP)) (c := (sel [1, 0, 1] rulesP)) (rp_s1 v l w0 p c hv hl) ?_) ?_
  · refine T3.cond (o := .tmp 9) (x := (sel [1, 0, 1, 2] rulesP)) (y := .skip) (fun _ _ => False) (fun a w => w = w0 ∧ Fr 87 [(0, v)] a) (fun a w h => .inr ⟨h.2.eval 9 (by decide) (v := .bool false) (by simp), h.1, h.2.tail⟩) (fun _ _ h => h.elim) (T3.skip (fun _ _ h => h))
  refine T3.seq (s := (sel [1, 1, 0] rulesP)) (c := (sel [1, 1, 1] rulesP)) (T3.seq (s := (sel [1, 1, 0, 0] rulesP)) (c := (sel [1, 1, 0, 1] rulesP)) (rp_s3 v l w0 p c hv) (rp_loop v l w0 hz hl hrow)) ?_
  exact T3.seq (s := (sel [1, 1, 1, 0] rulesP)) (c := .ret) (rp_s9 v l w0 hl) (T3.ret (fun _ _ h => h))

set_option maxRecDepth 100000 in
set_option maxHeartbeats 1000000 in
theorem rules_prog (v : Value) (n : Nat) (l : List RuleL) (base : Nat) (w0 : World) (h : Row w0 base 7 v n (cellsOf encR l)) (hz : ∀ r ∈ l, RuleOk r) :
    Calls Try.prog 84 #[v] w0 fun e w' => e = .returned (.int .i64 (rulesE l)) ∧ Below w0.heap.size w0 w' := by
  obtain ⟨hl, hc⟩ := h.els encR_length (by decide)
  subst hl
  obtain ⟨p, c, hv⟩ := h.shape
  by_cases h100 : 100 < l.length
  · have he := Lib.hid (show rulesE l = 2 by simp [rulesE, h100])
    clear hc
    subst hv
    go_enter Try.func84, Try.ntmps84
    go_wp2_with fail
    go_ret
    exact ⟨ret_int he.out.symm, Below.refl _ _⟩
  · have hrow : l.length = 0 ∨ ∃ b off cap, v = .slice (some ⟨b, off, none⟩) l.length cap ∧ b < w0.heap.size ∧ (l.length ≤ cap ∧ cap ≤ 9223372036854775807) ∧ ∀ i : Int, 0 ≤ i → i < l.length → ∀ j u, (encR (geta l i))[j]? = some u → w0.cell? ⟨b, off + i.toNat * 7 + j, none⟩ = some u := by
      rcases hc with ⟨_, h0⟩ | ⟨b, off, cap, e, _, hbs, hnc, hcm, hcell⟩
      · exact .inl h0
      · exact .inr ⟨b, off, cap, e, hbs, ⟨hnc, hcm⟩, hcell⟩
    go_enter Try.func84, Try.ntmps84
    refine T3.done (s := rulesP) (rp_all v l w0 p c hv hz h100 hrow) ⟨rfl, Fr.of _ rfl ⟨rfl, trivial⟩⟩ ?_
    rintro a w ⟨⟨f, rfl, q2, _⟩, hb⟩
    rw [frame87, show f 2 = _ from q2]
    go_ret
    exact ⟨rfl, hb⟩

end Go.Proofs.Ytnmdpphddimfbaa
/-
  Rules: the look of the reference. Conditions: strings and numbers are no greater than Go's.
-/
set_option linter.unusedVariables false
namespace Go.Proofs.Ytnmdpphddimfbaa
open Go.RowKit Go.Bw
def rrI (v : Value) (l : List RuleL) (w0 : World) (k : Int) (a : Act) (w : World) : Prop := (0 ≤ k ∧ k ≤ l.length ∧ NoErr (ruleAt l) k) ∧ Below w0.heap.size w0 w ∧ Fr 83 [(0, v), (3, .string (lastK l k)), (11, v), (12, .int .i64 l.length), (13, .int .i64 k)] a
end Go.Proofs.Ytnmdpphddimfbaa
/-
  Is a string among strings? The program's Common at one string. Condition: fewer strings than Go's greatest number.
-/
set_option linter.unusedVariables false
namespace Go.Proofs.Ytnmdpphddimfbaa
open Go.RowKit Go.Bw

set_option maxHeartbeats 400000 in
theorem common1 (v : Value) (n : Nat) (zs : List ByteArray) (x : ByteArray) (base B : Nat) (w : World) (h : Row w base 1 v n (cellsOf encSt zs)) (hB : w.cell? ⟨B, 0, none⟩ = some v) :
    Calls Try.prog 71 #[.string x, .pointer (some ⟨B, 0, none⟩)] w fun e w' => e = .returned (.bool (hasS zs x)) ∧ w = w' := by
  obtain ⟨p, c, hv⟩ := h.shape
  subst hv
  go_enter Try.func71, Try.ntmps71
  go_wp2_with (go_at_call 31; refine (contains_str _ n zs x base _ h).mono ?_; rintro e w1 ⟨rfl, rfl⟩)
  go_ret
  exact ⟨rfl, rfl⟩

set_option maxHeartbeats 1000000 in
theorem common_idx (v : Value) (n : Nat) (zs : List ByteArray) (x : ByteArray) (base B g : Nat) (w : World) (h : Row w base 1 v n (cellsOf encSt zs)) (hB : w.cell? ⟨B, 0, none⟩ = some v) (hg : w.cell? ⟨g, 0, none⟩ = some (.string x)) (q : Bool) (hq : hasS zs x = q) :
    Calls Try.prog 40 #[.slice (some ⟨g, 0, none⟩) 1 1, .func (.func 71) #[] #[.pointer (some ⟨B, 0, none⟩)]] w fun e w' => e = .returned (.int .i64 (if q = true then 0 else -1)) ∧ w = w' := by
  have H1 := Lib.hid (common1 v n zs x base B w h hB)
  rw [hq] at H1
  clear hB h hq
  cases q
  · go_enter Try.func40, Try.ntmps40
    go_wp2_with fail
    go_loop [8] (fun i => ∃ k : Int, 0 ≤ k ∧ k ≤ 1 ∧ i = .int .i64 k) (fun i => 2 - (intOf i).toNat)
    case atStart => exact ⟨0, by omega, by omega, rfl⟩
    case round =>
      obtain ⟨k, hk0, hk1, rfl⟩ := hrel
      by_cases hlt : k < 1
      · obtain rfl : k = 0 := by omega
        clear hk0 hk1 hlt
        go_wp2_with (go_at_call 71; refine H1.out.mono ?_; rintro e w1 ⟨rfl, rfl⟩)
        go_round
        case rel => exact ⟨1, by omega, by omega, rfl⟩
        case measure => simp [intOf]
      · obtain rfl : k = 1 := by omega
        clear hk0 hk1 hlt
        go_wp2_with fail
        go_ret
        exact ⟨rfl, rfl⟩
  · go_enter Try.func40, Try.ntmps40
    go_wp2_with fail
    go_loop [8] (fun i => i = .int .i64 0) (fun i => 2 - (intOf i).toNat)
    case atStart => rfl
    case round =>
      obtain rfl := hrel
      go_wp2_with (go_at_call 71; refine H1.out.mono ?_; rintro e w1 ⟨rfl, rfl⟩)
      go_ret
      exact ⟨rfl, rfl⟩

set_option maxHeartbeats 1000000 in
theorem common_fn (v : Value) (n : Nat) (zs : List ByteArray) (x : ByteArray) (base B g : Nat) (w : World) (h : Row w base 1 v n (cellsOf encSt zs)) (hB : w.cell? ⟨B, 0, none⟩ = some v) (hg : w.cell? ⟨g, 0, none⟩ = some (.string x)) :
    Calls Try.prog 29 #[.slice (some ⟨g, 0, none⟩) 1 1, .func (.func 71) #[] #[.pointer (some ⟨B, 0, none⟩)]] w fun e w' => e = .returned (.bool (hasS zs x)) ∧ w = w' := by
  have H1 := Lib.hid (common_idx v n zs x base B g w h hB hg _ rfl)
  clear hB h hg
  generalize hasS zs x = q at *
  cases q
  all_goals
    go_enter Try.func29, Try.ntmps29
    go_wp2_with (go_at_call 40; refine H1.out.mono ?_; rintro e w1 ⟨rfl, rfl⟩)
    go_ret
    exact ⟨rfl, rfl⟩

set_option maxHeartbeats 1000000 in
theorem common_any (v : Value) (n : Nat) (zs : List ByteArray) (x : ByteArray) (base g : Nat) (w : World) (h : Row w base 1 v n (cellsOf encSt zs)) (hg : w.cell? ⟨g, 0, none⟩ = some (.string x)) :
    Calls Try.prog 46 #[.slice (some ⟨g, 0, none⟩) 1 1, v] w fun e w' => e = .returned (.bool (hasS zs x)) ∧ Below w.heap.size w w' := by
  have hgl := World.block_lt_of_cell? w _ hg
  have hw0 := (Below.refl w.heap.size w).alloc (Nat.le_refl _) (.cells #[v] 32)
  have hr := h.below hw0
  have c0 := cells_new w #[v] 32 0 _ rfl
  have c1 := (hw0.cell (p := ⟨g, 0, none⟩) hgl).trans hg
  have H1 := Lib.hid (common_fn v n zs x base w.heap.size g _ hr c0 c1)
  obtain ⟨p, c, rfl⟩ := h.shape
  clear hr c0 c1 hg h
  go_enter Try.func46, Try.ntmps46
  go_wp2_with fail
  refine H1.out.mono ?_
  rintro e w1 ⟨rfl, rfl⟩
  go_wp2_with fail
  go_ret
  exact ⟨rfl, hw0⟩
end Go.Proofs.Ytnmdpphddimfbaa
