/-
  The law WeeksTotalled: the window's fault, the total that is wanted, the comparison; the walk from end to end. No condition.
-/
import Derived.Test.YtbidnbcclibigaaWT3
namespace Go.Proofs.Ytbidnbcclibigaa
open Go.RowKit Go.Bw
theorem T3.noT {P : Program} {R S X T : Rel} {s : Code} {id : Nat} (h : T3 P R s S X id No) : T3 P R s S X id T := h.mono (fun _ _ q => q) (fun _ _ q => q) (fun _ _ q => q.elim) (fun _ _ q => q)
theorem window_eq (f t : Int) : windowB f t = (decide (f < 1) || decide (t < f) || decide (61 < t)) := by
  unfold windowB outB
  rw [Bool.decide_or]
set_option maxRecDepth 100000 in
set_option maxHeartbeats 1000000 in
theorem wt25 (n₀ : Nat) (w0 : World) (vr : Value) (rs : List RuleL) (vp : Value) (ps : List ByteArray) (vx : Value) (ls : List LineL) (g8 : Nat) (f t : Int) (g9 : Nat) : T3 Try.prog (fun a w => (TB n₀ w0 vr rs vp ps vx ls g8 f t w ∧ Blk w g9 [.int .i64 (totN rs ps ls f t), .int .i64 (totD rs ps ls f t)]) ∧ Fr 141 [(4, vr), (5, vp), (6, vx), (8, .pointer (some ⟨g8, 0, none⟩)), (9, .pointer (some ⟨g9, 0, none⟩)), (10, .int .i64 (totalE rs ps ls f t)), (11, .int .i64 (err2 (err2 (err2 (rulesE rs) (listE ps)) (linesE ls)) (orderE ls)))] a) (sel [1, 1, 1, 1, 1, 1, 1, 1, 1, 1, 1, 0] wtB) (fun a w => (TB n₀ w0 vr rs vp ps vx ls g8 f t w ∧ Blk w g9 [.int .i64 (totN rs ps ls f t), .int .i64 (totD rs ps ls f t)]) ∧ Fr 141 [(4, vr), (5, vp), (6, vx), (8, .pointer (some ⟨g8, 0, none⟩)), (9, .pointer (some ⟨g9, 0, none⟩)), (10, .int .i64 (totalE rs ps ls f t)), (11, .int .i64 (totalE rs ps ls f t))] a) No 9 No := by
  refine T3.leaf ?_
  rintro Q JS JX JT K hS hK hX hE hT hR a w ⟨⟨hB, hG⟩, ⟨fr, rfl, q4, q5, q6, q8, q9, q10, q11, _⟩⟩
  have c0 := hB.win.2.1 0 _ rfl
  have c1 := hB.win.2.1 1 _ rfl
  have hs := Lib.hid (totalE_err2 rs ps ls f t)
  generalize hF : err2 (err2 (err2 (rulesE rs) (listE ps)) (linesE ls)) (orderE ls) = F at *
  clear hF
  have hw := window_eq f t
  by_cases h1 : f < 1
  · rw [show windowB f t = true by rw [hw]; simp [h1], if_pos rfl] at hs
    clear hw
    rw [frame141, show fr 4 = _ from q4, show fr 5 = _ from q5, show fr 6 = _ from q6, show fr 8 = _ from q8, show fr 9 = _ from q9, show fr 10 = _ from q10, show fr 11 = _ from q11]
    clear q4 q5 q6 q8 q9 q10 q11
    conv => arg 2; whnf
    go_wp2_with fail
    refine (when_any _ _ _).mono ?_
    rintro e w2 ⟨rfl, rfl⟩
    go_wp2_with fail
    refine (errs_two _ _ w _).mono ?_
    rintro e w3 ⟨rfl, hb⟩
    replace hB := hB.below hb
    replace hG := hG.below hb
    clear hb c0 c1
    go_wp2_with fail
    refine Met.intro (hS _ _ ?_)
    refine ⟨⟨hB, hG⟩, Fr.of _ rfl ⟨rfl, rfl, rfl, rfl, rfl, rfl, ?_, trivial⟩⟩
    exact congrArg _ hs.out.symm
  · have g1 : decide (f < 1) = false := by simp; omega
    by_cases h2 : t < f
    · rw [show windowB f t = true by rw [hw]; simp [h2], if_pos rfl] at hs
      clear hw
      rw [frame141, show fr 4 = _ from q4, show fr 5 = _ from q5, show fr 6 = _ from q6, show fr 8 = _ from q8, show fr 9 = _ from q9, show fr 10 = _ from q10, show fr 11 = _ from q11]
      clear q4 q5 q6 q8 q9 q10 q11
      conv => arg 2; whnf
      go_wp2_with fail
      refine (when_any _ _ _).mono ?_
      rintro e w2 ⟨rfl, rfl⟩
      go_wp2_with fail
      refine (errs_two _ _ w _).mono ?_
      rintro e w3 ⟨rfl, hb⟩
      replace hB := hB.below hb
      replace hG := hG.below hb
      clear hb c0 c1
      go_wp2_with fail
      refine Met.intro (hS _ _ ?_)
      refine ⟨⟨hB, hG⟩, Fr.of _ rfl ⟨rfl, rfl, rfl, rfl, rfl, rfl, ?_, trivial⟩⟩
      exact congrArg _ hs.out.symm
    · have g2 : decide (t < f) = false := by simp; omega
      by_cases h3 : 61 < t
      · rw [show windowB f t = true by rw [hw]; simp [h3], if_pos rfl] at hs
        clear hw
        rw [frame141, show fr 4 = _ from q4, show fr 5 = _ from q5, show fr 6 = _ from q6, show fr 8 = _ from q8, show fr 9 = _ from q9, show fr 10 = _ from q10, show fr 11 = _ from q11]
        clear q4 q5 q6 q8 q9 q10 q11
        conv => arg 2; whnf
        go_wp2_with fail
        refine (when_any _ _ _).mono ?_
        rintro e w2 ⟨rfl, rfl⟩
        go_wp2_with fail
        refine (errs_two _ _ w _).mono ?_
        rintro e w3 ⟨rfl, hb⟩
        replace hB := hB.below hb
        replace hG := hG.below hb
        clear hb c0 c1
        go_wp2_with fail
        refine Met.intro (hS _ _ ?_)
        refine ⟨⟨hB, hG⟩, Fr.of _ rfl ⟨rfl, rfl, rfl, rfl, rfl, rfl, ?_, trivial⟩⟩
        exact congrArg _ hs.out.symm
      · have g3 : decide (61 < t) = false := by simp; omega
        rw [show windowB f t = false by rw [hw, g1, g2, g3]; rfl, if_neg (by decide)] at hs
        clear hw
        rw [frame141, show fr 4 = _ from q4, show fr 5 = _ from q5, show fr 6 = _ from q6, show fr 8 = _ from q8, show fr 9 = _ from q9, show fr 10 = _ from q10, show fr 11 = _ from q11]
        clear q4 q5 q6 q8 q9 q10 q11
        conv => arg 2; whnf
        go_wp2_with fail
        refine (when_any _ _ _).mono ?_
        rintro e w2 ⟨rfl, rfl⟩
        go_wp2_with fail
        refine (errs_two _ _ w _).mono ?_
        rintro e w3 ⟨rfl, hb⟩
        replace hB := hB.below hb
        replace hG := hG.below hb
        clear hb c0 c1
        go_wp2_with fail
        refine Met.intro (hS _ _ ?_)
        refine ⟨⟨hB, hG⟩, Fr.of _ rfl ⟨rfl, rfl, rfl, rfl, rfl, rfl, ?_, trivial⟩⟩
        exact congrArg _ hs.out.symm

/-- A block behind all that there is, beside what holds before it. -/
structure T16 (n₀ : Nat) (w0 : World) (vr : Value) (rs : List RuleL) (vp : Value) (ps : List ByteArray) (vx : Value) (ls : List LineL) (g8 : Nat) (f t : Int) (g9 : Nat) (w6 : World) (cs : List Value) (w : World) : Prop where
  tb : TB n₀ w0 vr rs vp ps vx ls g8 f t w6
  n9 : Blk w6 g9 [.int .i64 (totN rs ps ls f t), .int .i64 (totD rs ps ls f t)]
  b6 : Below w6.heap.size w6 w
  out : Blk w w6.heap.size cs
set_option maxRecDepth 100000 in
set_option maxHeartbeats 1000000 in
theorem wt26 (n₀ : Nat) (w0 : World) (vr : Value) (rs : List RuleL) (vp : Value) (ps : List ByteArray) (vx : Value) (ls : List LineL) (g8 : Nat) (f t : Int) (g9 : Nat) : T3 Try.prog (fun a w => (TB n₀ w0 vr rs vp ps vx ls g8 f t w ∧ Blk w g9 [.int .i64 (totN rs ps ls f t), .int .i64 (totD rs ps ls f t)]) ∧ Fr 141 [(4, vr), (5, vp), (6, vx), (8, .pointer (some ⟨g8, 0, none⟩)), (9, .pointer (some ⟨g9, 0, none⟩)), (10, .int .i64 (totalE rs ps ls f t)), (11, .int .i64 (totalE rs ps ls f t))] a) (sel [1, 1, 1, 1, 1, 1, 1, 1, 1, 1, 1, 1, 0] wtB) (fun a w => ∃ w6 : World, T16 n₀ w0 vr rs vp ps vx ls g8 f t g9 w6 [.int .i64 0, .int .i64 0] w ∧ Fr 141 [(4, vr), (5, vp), (6, vx), (8, .pointer (some ⟨g8, 0, none⟩)), (9, .pointer (some ⟨g9, 0, none⟩)), (10, .int .i64 (totalE rs ps ls f t)), (11, .int .i64 (totalE rs ps ls f t)), (16, .pointer (some ⟨w6.heap.size, 0, none⟩))] a) No 9 No := by
  refine T3.leaf ?_
  rintro Q JS JX JT K hS hK hX hE hT hR a w ⟨⟨hB, hG⟩, ⟨fr, rfl, q4, q5, q6, q8, q9, q10, q11, _⟩⟩
  rw [frame141, show fr 4 = _ from q4, show fr 5 = _ from q5, show fr 6 = _ from q6, show fr 8 = _ from q8, show fr 9 = _ from q9, show fr 10 = _ from q10, show fr 11 = _ from q11]
  clear q4 q5 q6 q8 q9 q10 q11
  conv => arg 2; whnf
  go_wp2_with fail
  refine Met.intro (hS _ _ ?_)
  exact ⟨w, ⟨hB, hG, (Below.refl _ _).alloc (Nat.le_refl _) _, Blk.new w #[.int .i64 0, .int .i64 0] _⟩, Fr.of _ rfl ⟨rfl, rfl, rfl, rfl, rfl, rfl, rfl, rfl, trivial⟩⟩

set_option maxRecDepth 100000 in
set_option maxHeartbeats 1000000 in
theorem wt27 (n₀ : Nat) (w0 : World) (vr : Value) (rs : List RuleL) (vp : Value) (ps : List ByteArray) (vx : Value) (ls : List LineL) (g8 : Nat) (f t : Int) (g9 : Nat) (w6 : World) : T3 Try.prog (fun a w => T16 n₀ w0 vr rs vp ps vx ls g8 f t g9 w6 [.int .i64 0, .int .i64 0] w ∧ Fr 141 [(4, vr), (5, vp), (6, vx), (8, .pointer (some ⟨g8, 0, none⟩)), (9, .pointer (some ⟨g9, 0, none⟩)), (10, .int .i64 (totalE rs ps ls f t)), (11, .int .i64 (totalE rs ps ls f t)), (16, .pointer (some ⟨w6.heap.size, 0, none⟩))] a) (sel [1, 1, 1, 1, 1, 1, 1, 1, 1, 1, 1, 1, 1, 0, 0] wtB) (fun a w => ∃ q, Fr 141 ((124, .bool q) :: [(4, vr), (5, vp), (6, vx), (8, .pointer (some ⟨g8, 0, none⟩)), (9, .pointer (some ⟨g9, 0, none⟩)), (10, .int .i64 (totalE rs ps ls f t)), (11, .int .i64 (totalE rs ps ls f t)), (16, .pointer (some ⟨w6.heap.size, 0, none⟩))]) a ∧ ((q = true ↔ totalE rs ps ls f t = 0) ∧ T16 n₀ w0 vr rs vp ps vx ls g8 f t g9 w6 [.int .i64 0, .int .i64 0] w)) No 9 No := by
  refine T3.leaf ?_
  rintro Q JS JX JT K hS hK hX hE hT hR a w ⟨hO, ⟨fr, rfl, q4, q5, q6, q8, q9, q10, q11, q16, _⟩⟩
  generalize hE : totalE rs ps ls f t = E at *
  by_cases h0 : E = 0
  · subst h0
    rw [frame141, show fr 4 = _ from q4, show fr 5 = _ from q5, show fr 6 = _ from q6, show fr 8 = _ from q8, show fr 9 = _ from q9, show fr 10 = _ from q10, show fr 11 = _ from q11, show fr 16 = _ from q16]
    clear q4 q5 q6 q8 q9 q10 q11 q16
    conv => arg 2; whnf
    go_wp2_with fail
    refine Met.intro (hS _ _ ?_)
    exact ⟨true, Fr.of _ rfl ⟨rfl, rfl, rfl, rfl, rfl, rfl, rfl, rfl, rfl, trivial⟩, ⟨fun _ => by first | rfl | trivial, fun _ => by first | rfl | trivial⟩, hO⟩
  · have hE0 : (E == 0) = false := by simp [h0]
    rw [frame141, show fr 4 = _ from q4, show fr 5 = _ from q5, show fr 6 = _ from q6, show fr 8 = _ from q8, show fr 9 = _ from q9, show fr 10 = _ from q10, show fr 11 = _ from q11, show fr 16 = _ from q16]
    clear q4 q5 q6 q8 q9 q10 q11 q16
    conv => arg 2; whnf
    go_wp2_with fail
    refine Met.intro (hS _ _ ?_)
    exact ⟨false, Fr.of _ rfl ⟨rfl, rfl, rfl, rfl, rfl, rfl, rfl, rfl, rfl, trivial⟩, ⟨fun h => (by cases h), fun h => absurd h h0⟩, hO⟩

set_option maxRecDepth 100000 in
set_option maxHeartbeats 1000000 in
theorem wt28 (n₀ : Nat) (w0 : World) (vr : Value) (rs : List RuleL) (vp : Value) (ps : List ByteArray) (vx : Value) (ls : List LineL) (g8 : Nat) (f t : Int) (g9 : Nat) (w6 : World) : T3 Try.prog (fun a w => Fr 141 ((124, .bool true) :: [(4, vr), (5, vp), (6, vx), (8, .pointer (some ⟨g8, 0, none⟩)), (9, .pointer (some ⟨g9, 0, none⟩)), (10, .int .i64 (totalE rs ps ls f t)), (11, .int .i64 (totalE rs ps ls f t)), (16, .pointer (some ⟨w6.heap.size, 0, none⟩))]) a ∧ ((true = true ↔ totalE rs ps ls f t = 0) ∧ T16 n₀ w0 vr rs vp ps vx ls g8 f t g9 w6 [.int .i64 0, .int .i64 0] w)) (sel [1, 1, 1, 1, 1, 1, 1, 1, 1, 1, 1, 1, 1, 0, 1, 2] wtB) (fun a w => T16 n₀ w0 vr rs vp ps vx ls g8 f t g9 w6 [.int .i64 (totN rs ps ls f t), .int .i64 (totD rs ps ls f t)] w ∧ Fr 141 [(4, vr), (5, vp), (6, vx), (8, .pointer (some ⟨g8, 0, none⟩)), (9, .pointer (some ⟨g9, 0, none⟩)), (10, .int .i64 (totalE rs ps ls f t)), (11, .int .i64 (totalE rs ps ls f t)), (16, .pointer (some ⟨w6.heap.size, 0, none⟩))] a) No 9 No := by
  refine T3.leaf ?_
  rintro Q JS JX JT K hS hK hX hE hT hR a w ⟨⟨fr, rfl, q124, q4, q5, q6, q8, q9, q10, q11, q16, _⟩, hC, hO⟩
  have hE := hC.1 rfl
  clear hC
  have hA : askedE rs ps ls = 0 := by
    refine Decidable.byContradiction fun h => h ?_
    have := hE
    unfold totalE at this
    rwa [if_pos h] at this
  obtain ⟨a1, a2, a3⟩ := asked_ok hA
  have hN : totN rs ps ls f t = ofHn (totV rs ps f t ls) := by unfold totN; rw [if_pos hE]
  have hD : totD rs ps ls f t = ofHd (totV rs ps f t ls) := by unfold totD; rw [if_pos hE]
  have hB := hO.tb.below hO.b6
  have hgood := rule_good hB.ok a1
  have HT := Lib.hid (totalOf_ref w vr vp vx rs ps ls f t hB.ok hB.pok hB.lok (by have := hB.l5; omega) hB.rr hB.pp hB.xx hB.la hgood (rules_len a1) (lines_counts a3))
  rw [← hN, ← hD] at HT
  have c0 := hB.win.2.1 0 _ rfl
  have c1 := hB.win.2.1 1 _ rfl
  clear hN hD a1 a2 a3 hA hE hgood hB
  have h6 := hO.b6
  have hU := hO.out
  have HT9 := Lib.hid hO.tb
  have HN9 := Lib.hid hO.n9
  clear hO
  generalize hN : totN rs ps ls f t = N at *
  generalize hDD : totD rs ps ls f t = DD at *
  have HN := Lib.hid hN
  have HD := Lib.hid hDD
  clear hN hDD
  rw [frame141, show fr 124 = _ from q124, show fr 4 = _ from q4, show fr 5 = _ from q5, show fr 6 = _ from q6, show fr 8 = _ from q8, show fr 9 = _ from q9, show fr 10 = _ from q10, show fr 11 = _ from q11, show fr 16 = _ from q16]
  clear q124 q4 q5 q6 q8 q9 q10 q11 q16
  conv => arg 2; whnf
  go_wp2_with fail
  refine HT.out.mono ?_
  rintro e w1 ⟨rfl, hb⟩
  replace hU := hU.below hb
  have hz6 := h6.size
  replace h6 := h6.trans (hb.mono hz6)
  have hf0 := hU.2.2 0
  have hf1 := hU.2.2 1
  have o0 := hU.2.1 0 _ rfl
  have o1 := hU.2.1 1 _ rfl
  clear hb c0 c1 HT
  go_wp2_with fail
  refine Met.intro (hS _ _ ?_)
  have g1 := grown_setCell w1 w6.heap.size 0 (.int .i64 N)
  have g2 := grown_setCell (w1.setCell ⟨w6.heap.size, 0, none⟩ (.int .i64 N)) w6.heap.size 1 (.int .i64 DD)
  exact ⟨⟨HT9.out, by rw [HN.out, HD.out]; exact HN9.out, (h6.grown g1 h6.size (fun k hk => by cases hk; exact Nat.le_refl _)).grown g2 (Nat.le_trans h6.size g1.size) (fun k hk => by cases hk; exact Nat.le_refl _), (hU.set 0 (by simp) _).set 1 (by simp) _⟩, Fr.of _ rfl ⟨rfl, rfl, rfl, rfl, rfl, rfl, rfl, rfl, trivial⟩⟩

set_option maxRecDepth 100000 in
set_option maxHeartbeats 1000000 in
theorem wt29 (n₀ : Nat) (w0 : World) (vr : Value) (rs : List RuleL) (vp : Value) (ps : List ByteArray) (vx : Value) (ls : List LineL) (g8 : Nat) (f t : Int) (g9 : Nat) (w6 : World) : T3 Try.prog (fun a w => T16 n₀ w0 vr rs vp ps vx ls g8 f t g9 w6 [.int .i64 (totN rs ps ls f t), .int .i64 (totD rs ps ls f t)] w ∧ Fr 141 [(4, vr), (5, vp), (6, vx), (8, .pointer (some ⟨g8, 0, none⟩)), (9, .pointer (some ⟨g9, 0, none⟩)), (10, .int .i64 (totalE rs ps ls f t)), (11, .int .i64 (totalE rs ps ls f t)), (16, .pointer (some ⟨w6.heap.size, 0, none⟩))] a) (sel [1, 1, 1, 1, 1, 1, 1, 1, 1, 1, 1, 1, 1, 1, 0] wtB) (fun a w => Below n₀ w0 w ∧ Fr 141 [(2, .bool true)] a) No 9 No := by
  refine T3.leaf ?_
  rintro Q JS JX JT K hS hK hX hE hT hR a w ⟨hO, ⟨fr, rfl, q4, q5, q6, q8, q9, q10, q11, q16, _⟩⟩
  have hB := hO.tb.below hO.b6
  have h9 := hO.n9.below hO.b6
  have h16 := hO.out
  clear hO
  have a0 := h9.2.1 0 _ rfl
  have a1 := h9.2.1 1 _ rfl
  have b0 := h16.2.1 0 _ rfl
  have b1 := h16.2.1 1 _ rfl
  have hbel := hB.bel
  have hz := hB.hz
  clear hB h9 h16
  generalize totN rs ps ls f t = N at *
  generalize totD rs ps ls f t = DD at *
  generalize totalE rs ps ls f t = E at *
  rw [frame141, show fr 4 = _ from q4, show fr 5 = _ from q5, show fr 6 = _ from q6, show fr 8 = _ from q8, show fr 9 = _ from q9, show fr 10 = _ from q10, show fr 11 = _ from q11, show fr 16 = _ from q16]
  clear q4 q5 q6 q8 q9 q10 q11 q16
  conv => arg 2; whnf
  go_wp2_with fail
  refine (scored_any w).mono ?_
  rintro e w1 ⟨rfl, hb⟩
  replace hbel := hbel.trans (hb.mono hz)
  go_wp2_with fail
  refine Met.intro (hS _ _ ?_)
  exact ⟨hbel, Fr.of _ rfl ⟨rfl, trivial⟩⟩

set_option maxRecDepth 100000 in
set_option maxHeartbeats 1000000 in
theorem weeks_law (v : Value) (n : Nat) (zs : List Int) (w0 : World) (h : SRow w0 v n zs w0.heap.size) :
    Calls Try.prog 3 #[v] w0 fun e w' => e = .returned (.bool true) ∧ Below w0.heap.size w0 w' := by
  have hall : T3 Try.prog (fun a w => w = w0 ∧ Fr 141 [(0, v)] a) wtB No No 9 (fun a w => Below w0.heap.size w0 w ∧ Fr 141 [(2, .bool true)] a) := by
    refine T3.seq (s := (sel [0] wtB)) (c := (sel [1] wtB)) (T3.noT (wt0 v w0)) ?_
    refine T3.seq (s := (sel [1, 0] wtB)) (c := (sel [1, 1] wtB)) (T3.noT (wt1 v n zs w0 h)) ?_
    refine T3.seq (s := (sel [1, 1, 0] wtB)) (c := (sel [1, 1, 1] wtB)) (T3.noT (wt2 _ w0)) ?_
    refine T3.seq (s := (sel [1, 1, 1, 0] wtB)) (c := (sel [1, 1, 1, 1] wtB)) (T3.noT (wt3 _ w0)) ?_
    refine T3.seq (s := (sel [1, 1, 1, 1, 0] wtB)) (c := (sel [1, 1, 1, 1, 1] wtB)) (T3.noT (wt4 _ w0)) ?_
    refine T3.seq (s := (sel [1, 1, 1, 1, 1, 0] wtB)) (c := (sel [1, 1, 1, 1, 1, 1] wtB)) (T3.noT (T3.seq (s := (sel [1, 1, 1, 1, 1, 0, 0] wtB)) (c := (sel [1, 1, 1, 1, 1, 0, 1] wtB)) (wt5 _ w0) (T3.ex fun m => wt_loop _ w0 m))) ?_
    refine T3.seq (s := (sel [1, 1, 1, 1, 1, 1, 0] wtB)) (c := (sel [1, 1, 1, 1, 1, 1, 1] wtB)) (T3.noT (wt12 _ w0)) ?_
    refine T3.ex fun vr => T3.ex fun rs => T3.ex fun vp => T3.ex fun ps => T3.ex fun vx => T3.ex fun ls => T3.ex fun g8 => T3.ex fun f => T3.ex fun t => ?_
    refine T3.seq (s := (sel [1, 1, 1, 1, 1, 1, 1, 0] wtB)) (c := (sel [1, 1, 1, 1, 1, 1, 1, 1] wtB)) (T3.noT (wt13 _ w0 vr rs vp ps vx ls g8 f t)) ?_
    refine T3.ex fun g9 => ?_
    refine T3.seq (s := (sel [1, 1, 1, 1, 1, 1, 1, 1, 0] wtB)) (c := (sel [1, 1, 1, 1, 1, 1, 1, 1, 1] wtB)) (T3.noT (wt14 _ w0 vr rs vp ps vx ls g8 f t g9)) ?_
    refine T3.seq (s := (sel [1, 1, 1, 1, 1, 1, 1, 1, 1, 0] wtB)) (c := (sel [1, 1, 1, 1, 1, 1, 1, 1, 1, 1] wtB)) (T3.noT (T3.seq (s := (sel [1, 1, 1, 1, 1, 1, 1, 1, 1, 0, 0] wtB)) (c := (sel [1, 1, 1, 1, 1, 1, 1, 1, 1, 0, 1] wtB)) (wt15 _ w0 vr rs vp ps vx ls g8 f t g9) (wt_loop2 _ w0 vr rs vp ps vx ls g8 f t g9))) ?_
    refine T3.seq (s := (sel [1, 1, 1, 1, 1, 1, 1, 1, 1, 1, 0] wtB)) (c := (sel [1, 1, 1, 1, 1, 1, 1, 1, 1, 1, 1] wtB)) (T3.noT (T3.seq (s := (sel [1, 1, 1, 1, 1, 1, 1, 1, 1, 1, 0, 0] wtB)) (c := (sel [1, 1, 1, 1, 1, 1, 1, 1, 1, 1, 0, 1] wtB)) (wt20 _ w0 vr rs vp ps vx ls g8 f t g9) (wt_loop3 _ w0 vr rs vp ps vx ls g8 f t g9))) ?_
    refine T3.seq (s := (sel [1, 1, 1, 1, 1, 1, 1, 1, 1, 1, 1, 0] wtB)) (c := (sel [1, 1, 1, 1, 1, 1, 1, 1, 1, 1, 1, 1] wtB)) (T3.noT (wt25 _ w0 vr rs vp ps vx ls g8 f t g9)) ?_
    refine T3.seq (s := (sel [1, 1, 1, 1, 1, 1, 1, 1, 1, 1, 1, 1, 0] wtB)) (c := (sel [1, 1, 1, 1, 1, 1, 1, 1, 1, 1, 1, 1, 1] wtB)) (T3.noT (wt26 _ w0 vr rs vp ps vx ls g8 f t g9)) ?_
    refine T3.ex fun w6 => ?_
    refine T3.seq (s := (sel [1, 1, 1, 1, 1, 1, 1, 1, 1, 1, 1, 1, 1, 0] wtB)) (c := (sel [1, 1, 1, 1, 1, 1, 1, 1, 1, 1, 1, 1, 1, 1] wtB)) (S := fun a w => T16 w0.heap.size w0 vr rs vp ps vx ls g8 f t g9 w6 [.int .i64 (totN rs ps ls f t), .int .i64 (totD rs ps ls f t)] w ∧ Fr 141 [(4, vr), (5, vp), (6, vx), (8, .pointer (some ⟨g8, 0, none⟩)), (9, .pointer (some ⟨g9, 0, none⟩)), (10, .int .i64 (totalE rs ps ls f t)), (11, .int .i64 (totalE rs ps ls f t)), (16, .pointer (some ⟨w6.heap.size, 0, none⟩))] a) ?_ ?_
    · refine T3.noT (T3.test (s := (sel [1, 1, 1, 1, 1, 1, 1, 1, 1, 1, 1, 1, 1, 0, 0] wtB)) (x := (sel [1, 1, 1, 1, 1, 1, 1, 1, 1, 1, 1, 1, 1, 0, 1, 2] wtB)) (y := .skip) (C := fun q => (q = true ↔ totalE rs ps ls f t = 0)) (W := fun w => T16 w0.heap.size w0 vr rs vp ps vx ls g8 f t g9 w6 [.int .i64 0, .int .i64 0] w) (by decide) (wt27 _ w0 vr rs vp ps vx ls g8 f t g9 w6) (wt28 _ w0 vr rs vp ps vx ls g8 f t g9 w6) (T3.skip ?_))
      rintro a w ⟨hC, hO, hF⟩
      have hE : ¬ totalE rs ps ls f t = 0 := fun h => by have := hC.2 h; cases this
      have hN : totN rs ps ls f t = 0 := by unfold totN; rw [if_neg hE]
      have hD : totD rs ps ls f t = 0 := by unfold totD; rw [if_neg hE]
      refine ⟨?_, hF⟩
      rw [hN, hD]
      exact hO
    refine T3.seq (s := (sel [1, 1, 1, 1, 1, 1, 1, 1, 1, 1, 1, 1, 1, 1, 0] wtB)) (c := (sel [1, 1, 1, 1, 1, 1, 1, 1, 1, 1, 1, 1, 1, 1, 1] wtB)) (T3.noT (wt29 _ w0 vr rs vp ps vx ls g8 f t g9 w6)) ?_
    exact T3.ret (fun a w q => q)
  go_enter Try.func3, Try.ntmps3
  refine T3.done (s := wtB) hall ⟨rfl, Fr.of _ rfl ⟨rfl, trivial⟩⟩ ?_
  rintro a w ⟨hb, fr, rfl, q2, _⟩
  rw [frame141, show fr 2 = _ from q2]
  go_ret
  exact ⟨rfl, hb⟩
end Go.Proofs.Ytbidnbcclibigaa
