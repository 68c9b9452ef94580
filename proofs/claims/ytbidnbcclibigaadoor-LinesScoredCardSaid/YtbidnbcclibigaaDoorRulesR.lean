/-
  Rules: the look of the reference. Conditions: strings and numbers are no greater than Go's.
-/
import Derived.Test.YtbidnbcclibigaaDoorRulesP
namespace Go.Proofs.YtbidnbcclibigaaDoor
open Go.RowKit Go.Bw
noncomputable def rulesR : Code := (Tryd.f11.body).getD .skip
set_option maxRecDepth 100000 in
theorem frame83 (f : Nat → Value) : frame 83 f = ⟨#[f 0, f 1, f 2, f 3, f 4, f 5, f 6, f 7, f 8, f 9, f 10, f 11, f 12, f 13, f 14, f 15, f 16, f 17, f 18, f 19, f 20, f 21, f 22, f 23, f 24, f 25, f 26, f 27, f 28, f 29, f 30, f 31, f 32, f 33, f 34, f 35, f 36, f 37, f 38, f 39, f 40, f 41, f 42, f 43, f 44, f 45, f 46, f 47, f 48, f 49, f 50, f 51, f 52, f 53, f 54, f 55, f 56, f 57, f 58, f 59, f 60, f 61, f 62, f 63, f 64, f 65, f 66, f 67, f 68, f 69, f 70, f 71, f 72, f 73, f 74, f 75, f 76, f 77, f 78, f 79, f 80, f 81, f 82], []⟩ := by rfl
set_option maxRecDepth 100000 in
set_option maxHeartbeats 1000000 in
theorem rr_name (v : Value) (l : List RuleL) (w0 : World) (k : Int) (g : Nat) (hz : ∀ r ∈ l, RuleOk r) (hl : ¬ 100 < l.length) : T3 Tryd.prog (fun a w => (True) ∧ Mw w0 l k g w ∧ Fr 83 ([(6, .bool (many2 (geta l k))), (0, v), (3, .string (lastK l k)), (11, v), (12, .int .i64 l.length), (13, .int .i64 k), (5, .pointer (some ⟨g, 0, none⟩))]) a) (sel [1, 1, 1, 0, 1, 4, 4, 1, 1, 0, 4, 1, 1, 0, 4, 0] rulesR)
    (fun a w => ∃ q, Fr 83 ((25, .bool q) :: [(6, .bool (many2 (geta l k))), (0, v), (3, .string (lastK l k)), (11, v), (12, .int .i64 l.length), (13, .int .i64 k), (5, .pointer (some ⟨g, 0, none⟩))]) a ∧ ((q = nameB (geta l k)) ∧ Mw w0 l k g w)) No 0
    (fun a w => Fr 83 [(2, .int .i64 (rulesE l))] a ∧ Below w0.heap.size w0 w) := by
  refine T3.leaf ?_
  rintro Q JS JX JT K hS hK hX hE hT hR a w ⟨hC, hM, ⟨f, rfl, q6, q0, q3, q11, q12, q13, q5, _⟩⟩
  have HC := Lib.hid hC
  clear hC
  have hr := hz _ (geta_mem hM.k0 hM.k1)
  have hk0 := hM.k0
  have hk1 := hM.k1
  have hcp := hM.copy.2
  rw [frame83, show f 6 = .bool (many2 (geta l k)) from q6, show f 0 = v from q0, show f 3 = .string (lastK l k) from q3, show f 11 = v from q11, show f 12 = .int .i64 l.length from q12, show f 13 = .int .i64 k from q13, show f 5 = .pointer (some ⟨g, 0, none⟩) from q5]
  clear q6 q0 q3 q11 q12 q13 q5
  conv => arg 2; whnf
  have c0 := hcp 0 _ rfl
  have c1 := hcp 1 _ rfl
  have c2 := hcp 2 _ rfl
  clear hcp
  have z0 := hr.key
  have z1 := hr.stat
  have z2 := hr.pos
  have Hn := Lib.hid (show nameB (geta l k) = (!keyB (geta l k).key || !keyB (geta l k).stat || (decide ((geta l k).pos.size ≠ 0) && !keyB (geta l k).pos)) from rfl)
  clear hr
  generalize (geta l k).key = s0 at *
  generalize (geta l k).stat = s1 at *
  generalize (geta l k).pos = s2 at *
  cases b0 : keyB s0
  · have Hq := Lib.hid (show true = nameB (geta l k) by rw [Hn.out, b0]; rfl)
    have B0 := Lib.hid b0
    go_wp2_with (go_at_call 33; go_must (refine (key_ref_is _ _ B0.out _ z0).mono ?_); rintro e w1 ⟨rfl, rfl⟩)
    refine Met.intro (hS _ _ ?_)
    exact ⟨true, Fr.of _ rfl ⟨rfl, rfl, rfl, rfl, rfl, rfl, rfl, rfl, trivial⟩, Hq.out, hM⟩
  cases b1 : keyB s1
  · have Hq := Lib.hid (show true = nameB (geta l k) by rw [Hn.out, b0, b1]; rfl)
    have B0 := Lib.hid b0
    have B1 := Lib.hid b1
    clear b0 b1
    go_wp2_with fail
    refine (key_ref_is _ _ B0.out _ z0).mono ?_
    rintro e w1 ⟨rfl, rfl⟩
    go_wp2_with fail
    refine (key_ref_is _ _ B1.out _ z1).mono ?_
    rintro e w1 ⟨rfl, rfl⟩
    go_wp2_with fail
    refine Met.intro (hS _ _ ?_)
    exact ⟨true, Fr.of _ rfl ⟨rfl, rfl, rfl, rfl, rfl, rfl, rfl, rfl, trivial⟩, Hq.out, hM⟩
  have B0 := Lib.hid b0
  have B1 := Lib.hid b1
  by_cases h2 : s2.size = 0
  · have Hq := Lib.hid (show false = nameB (geta l k) by rw [Hn.out, b0, b1]; simp [h2])
    have e2 := str_empty h2
    clear b0 b1 h2
    go_wp2_with fail
    refine (key_ref_is _ _ B0.out _ z0).mono ?_
    rintro e w1 ⟨rfl, rfl⟩
    go_wp2_with fail
    refine (key_ref_is _ _ B1.out _ z1).mono ?_
    rintro e w1 ⟨rfl, rfl⟩
    go_wp2_with fail
    refine Met.intro (hS _ _ ?_)
    exact ⟨false, Fr.of _ rfl ⟨rfl, rfl, rfl, rfl, rfl, rfl, rfl, rfl, trivial⟩, Hq.out, hM⟩
  · have e2 := str_full h2
    have e3 : (!s2.toList.isEmpty) = true := by rw [e2]; rfl
    cases b2 : keyB s2
    · have Hq := Lib.hid (show true = nameB (geta l k) by rw [Hn.out, b0, b1, b2]; simp [h2])
      have B2 := Lib.hid b2
      clear b0 b1 b2 h2
      go_wp2_with fail
      refine (key_ref_is _ _ B0.out _ z0).mono ?_
      rintro e w1 ⟨rfl, rfl⟩
      go_wp2_with fail
      refine (key_ref_is _ _ B1.out _ z1).mono ?_
      rintro e w1 ⟨rfl, rfl⟩
      go_wp2_with fail
      refine (key_ref_is _ _ B2.out _ z2).mono ?_
      rintro e w1 ⟨rfl, rfl⟩
      go_wp2_with fail
      refine Met.intro (hS _ _ ?_)
      exact ⟨true, Fr.of _ rfl ⟨rfl, rfl, rfl, rfl, rfl, rfl, rfl, rfl, trivial⟩, Hq.out, hM⟩
    · have Hq := Lib.hid (show false = nameB (geta l k) by rw [Hn.out, b0, b1, b2]; simp)
      have B2 := Lib.hid b2
      clear b0 b1 b2 h2
      go_wp2_with fail
      refine (key_ref_is _ _ B0.out _ z0).mono ?_
      rintro e w1 ⟨rfl, rfl⟩
      go_wp2_with fail
      refine (key_ref_is _ _ B1.out _ z1).mono ?_
      rintro e w1 ⟨rfl, rfl⟩
      go_wp2_with fail
      refine (key_ref_is _ _ B2.out _ z2).mono ?_
      rintro e w1 ⟨rfl, rfl⟩
      go_wp2_with fail
      refine Met.intro (hS _ _ ?_)
      exact ⟨false, Fr.of _ rfl ⟨rfl, rfl, rfl, rfl, rfl, rfl, rfl, rfl, trivial⟩, Hq.out, hM⟩

set_option maxRecDepth 100000 in
set_option maxHeartbeats 1000000 in
theorem rr_name5 (v : Value) (l : List RuleL) (w0 : World) (k : Int) (g : Nat) (hz : ∀ r ∈ l, RuleOk r) (hl : ¬ 100 < l.length) : T3 Tryd.prog (fun a w => Fr 83 ((25, .bool true) :: [(6, .bool (many2 (geta l k))), (0, v), (3, .string (lastK l k)), (11, v), (12, .int .i64 l.length), (13, .int .i64 k), (5, .pointer (some ⟨g, 0, none⟩))]) a ∧ (true = nameB (geta l k)) ∧ Mw w0 l k g w) (sel [1, 1, 1, 0, 1, 4, 4, 1, 1, 0, 4, 1, 1, 0, 4, 1, 2] rulesR) No No 0 (fun a w => Fr 83 [(2, .int .i64 (rulesE l))] a ∧ Below w0.heap.size w0 w) := by
  refine T3.leaf ?_
  rintro Q JS JX JT K hS hK hX hE hT hR a w ⟨⟨f, rfl, q25, q6, q0, q3, q11, q12, q13, q5, _⟩, hC, hM⟩
  have He := Lib.hid (hM.ends hl (by rw [show ruleAt l k = 5 from if_pos hC.symm]; decide))
  have Hv := Lib.hid (show ruleAt l k = 5 by rw [show ruleAt l k = 5 from if_pos hC.symm])
  have hb := hM.bel
  clear hC
  rw [frame83, show f 25 = .bool true from q25, show f 6 = .bool (many2 (geta l k)) from q6, show f 0 = v from q0, show f 3 = .string (lastK l k) from q3, show f 11 = v from q11, show f 12 = .int .i64 l.length from q12, show f 13 = .int .i64 k from q13, show f 5 = .pointer (some ⟨g, 0, none⟩) from q5]
  clear q25 q6 q0 q3 q11 q12 q13 q5
  conv => arg 2; whnf
  go_wp2_with fail
  refine Met.intro (hT _ _ ?_)
  exact ⟨Fr.of _ rfl ⟨by rw [He.out, Hv.out]; rfl, trivial⟩, hb⟩

set_option maxRecDepth 100000 in
set_option maxHeartbeats 1000000 in
theorem rr_order (v : Value) (l : List RuleL) (w0 : World) (k : Int) (g : Nat) (hz : ∀ r ∈ l, RuleOk r) (hl : ¬ 100 < l.length) : T3 Tryd.prog (fun a w => (false = nameB (geta l k)) ∧ Mw w0 l k g w ∧ Fr 83 ([(6, .bool (many2 (geta l k))), (0, v), (3, .string (lastK l k)), (11, v), (12, .int .i64 l.length), (13, .int .i64 k), (5, .pointer (some ⟨g, 0, none⟩))]) a) (sel [1, 1, 1, 0, 1, 4, 4, 1, 1, 0, 4, 1, 1, 0, 4, 1, 3, 0] rulesR)
    (fun a w => ∃ q, Fr 83 ((47, .bool q) :: [(6, .bool (many2 (geta l k))), (0, v), (3, .string (lastK l k)), (11, v), (12, .int .i64 l.length), (13, .int .i64 k), (5, .pointer (some ⟨g, 0, none⟩))]) a ∧ ((q = orderB l k ∧ false = nameB (geta l k)) ∧ Mw w0 l k g w)) No 0
    (fun a w => Fr 83 [(2, .int .i64 (rulesE l))] a ∧ Below w0.heap.size w0 w) := by
  refine T3.leaf ?_
  rintro Q JS JX JT K hS hK hX hE hT hR a w ⟨hC, hM, ⟨f, rfl, q6, q0, q3, q11, q12, q13, q5, _⟩⟩
  have HC := Lib.hid hC
  clear hC
  have hr := hz _ (geta_mem hM.k0 hM.k1)
  have hk0 := hM.k0
  have hk1 := hM.k1
  have hcp := hM.copy.2
  rw [frame83, show f 6 = .bool (many2 (geta l k)) from q6, show f 0 = v from q0, show f 3 = .string (lastK l k) from q3, show f 11 = v from q11, show f 12 = .int .i64 l.length from q12, show f 13 = .int .i64 k from q13, show f 5 = .pointer (some ⟨g, 0, none⟩) from q5]
  clear q6 q0 q3 q11 q12 q13 q5
  conv => arg 2; whnf
  have c0 := hcp 0 _ rfl
  clear hcp hr
  have Ho := Lib.hid (order_last l k HC.out.symm)
  generalize (geta l k).key = s0 at *
  generalize lastK l k = s1 at *
  cases hle : leB s0 s1
  · have Hq := Lib.hid (show false = orderB l k by rw [Ho.out, hle])
    unfold leB at hle
    go_wp2_with fail
    refine Met.intro (hS _ _ ?_)
    exact ⟨false, Fr.of _ rfl ⟨rfl, rfl, rfl, rfl, rfl, rfl, rfl, rfl, trivial⟩, ⟨Hq.out, HC.out⟩, hM⟩
  · have Hq := Lib.hid (show true = orderB l k by rw [Ho.out, hle])
    unfold leB at hle
    go_wp2_with fail
    refine Met.intro (hS _ _ ?_)
    exact ⟨true, Fr.of _ rfl ⟨rfl, rfl, rfl, rfl, rfl, rfl, rfl, rfl, trivial⟩, ⟨Hq.out, HC.out⟩, hM⟩

set_option maxRecDepth 100000 in
set_option maxHeartbeats 1000000 in
theorem rr_order7 (v : Value) (l : List RuleL) (w0 : World) (k : Int) (g : Nat) (hz : ∀ r ∈ l, RuleOk r) (hl : ¬ 100 < l.length) : T3 Tryd.prog (fun a w => Fr 83 ((47, .bool true) :: [(6, .bool (many2 (geta l k))), (0, v), (3, .string (lastK l k)), (11, v), (12, .int .i64 l.length), (13, .int .i64 k), (5, .pointer (some ⟨g, 0, none⟩))]) a ∧ (true = orderB l k ∧ false = nameB (geta l k)) ∧ Mw w0 l k g w) (sel [1, 1, 1, 0, 1, 4, 4, 1, 1, 0, 4, 1, 1, 0, 4, 1, 3, 1, 2] rulesR) No No 0 (fun a w => Fr 83 [(2, .int .i64 (rulesE l))] a ∧ Below w0.heap.size w0 w) := by
  refine T3.leaf ?_
  rintro Q JS JX JT K hS hK hX hE hT hR a w ⟨⟨f, rfl, q47, q6, q0, q3, q11, q12, q13, q5, _⟩, hC, hM⟩
  have He := Lib.hid (hM.ends hl (by rw [show ruleAt l k = 7 by unfold ruleAt; rw [if_neg (by rw [← hC.2]; decide), if_pos hC.1.symm]]; decide))
  have Hv := Lib.hid (show ruleAt l k = 7 by rw [show ruleAt l k = 7 by unfold ruleAt; rw [if_neg (by rw [← hC.2]; decide), if_pos hC.1.symm]])
  have hb := hM.bel
  clear hC
  rw [frame83, show f 47 = .bool true from q47, show f 6 = .bool (many2 (geta l k)) from q6, show f 0 = v from q0, show f 3 = .string (lastK l k) from q3, show f 11 = v from q11, show f 12 = .int .i64 l.length from q12, show f 13 = .int .i64 k from q13, show f 5 = .pointer (some ⟨g, 0, none⟩) from q5]
  clear q47 q6 q0 q3 q11 q12 q13 q5
  conv => arg 2; whnf
  go_wp2_with fail
  refine Met.intro (hT _ _ ?_)
  exact ⟨Fr.of _ rfl ⟨by rw [He.out, Hv.out]; rfl, trivial⟩, hb⟩

set_option maxRecDepth 100000 in
set_option maxHeartbeats 1000000 in
theorem rr_kind (v : Value) (l : List RuleL) (w0 : World) (k : Int) (g : Nat) (hz : ∀ r ∈ l, RuleOk r) (hl : ¬ 100 < l.length) : T3 Tryd.prog (fun a w => (false = orderB l k ∧ false = nameB (geta l k)) ∧ Mw w0 l k g w ∧ Fr 83 ([(6, .bool (many2 (geta l k))), (0, v), (3, .string (lastK l k)), (11, v), (12, .int .i64 l.length), (13, .int .i64 k), (5, .pointer (some ⟨g, 0, none⟩))]) a) (sel [1, 1, 1, 0, 1, 4, 4, 1, 1, 0, 4, 1, 1, 0, 4, 1, 3, 1, 3, 0] rulesR)
    (fun a w => ∃ q, Fr 83 ((52, .bool q) :: [(6, .bool (many2 (geta l k))), (0, v), (3, .string (lastK l k)), (11, v), (12, .int .i64 l.length), (13, .int .i64 k), (5, .pointer (some ⟨g, 0, none⟩))]) a ∧ ((q = kindB (geta l k) ∧ false = orderB l k ∧ false = nameB (geta l k)) ∧ Mw w0 l k g w)) No 0
    (fun a w => Fr 83 [(2, .int .i64 (rulesE l))] a ∧ Below w0.heap.size w0 w) := by
  refine T3.leaf ?_
  rintro Q JS JX JT K hS hK hX hE hT hR a w ⟨hC, hM, ⟨f, rfl, q6, q0, q3, q11, q12, q13, q5, _⟩⟩
  have HC := Lib.hid hC
  clear hC
  have hr := hz _ (geta_mem hM.k0 hM.k1)
  have hk0 := hM.k0
  have hk1 := hM.k1
  have hcp := hM.copy.2
  rw [frame83, show f 6 = .bool (many2 (geta l k)) from q6, show f 0 = v from q0, show f 3 = .string (lastK l k) from q3, show f 11 = v from q11, show f 12 = .int .i64 l.length from q12, show f 13 = .int .i64 k from q13, show f 5 = .pointer (some ⟨g, 0, none⟩) from q5]
  clear q6 q0 q3 q11 q12 q13 q5
  conv => arg 2; whnf
  have c3 := hcp 3 _ rfl
  clear hcp hr
  have Ho := Lib.hid (show kindB (geta l k) = outB (geta l k).kind 1 4 from rfl)
  generalize (geta l k).kind = n0 at *
  cases ho : outB n0 1 4
  · have Hq := Lib.hid (show false = kindB (geta l k) by rw [Ho.out, ho])
    have ho := Lib.hid (show (!outB n0 1 4) = true by rw [ho]; rfl)
    go_wp2_with (go_at_call 34; refine (in_is _ _ _ _ ho.out _).mono ?_; rintro e w1 ⟨rfl, rfl⟩)
    refine Met.intro (hS _ _ ?_)
    exact ⟨false, Fr.of _ rfl ⟨rfl, rfl, rfl, rfl, rfl, rfl, rfl, rfl, trivial⟩, ⟨Hq.out, HC.out⟩, hM⟩
  · have Hq := Lib.hid (show true = kindB (geta l k) by rw [Ho.out, ho])
    have ho := Lib.hid (show (!outB n0 1 4) = false by rw [ho]; rfl)
    go_wp2_with (go_at_call 34; refine (in_is _ _ _ _ ho.out _).mono ?_; rintro e w1 ⟨rfl, rfl⟩)
    refine Met.intro (hS _ _ ?_)
    exact ⟨true, Fr.of _ rfl ⟨rfl, rfl, rfl, rfl, rfl, rfl, rfl, rfl, trivial⟩, ⟨Hq.out, HC.out⟩, hM⟩

set_option maxRecDepth 100000 in
set_option maxHeartbeats 1000000 in
theorem rr_kind4 (v : Value) (l : List RuleL) (w0 : World) (k : Int) (g : Nat) (hz : ∀ r ∈ l, RuleOk r) (hl : ¬ 100 < l.length) : T3 Tryd.prog (fun a w => Fr 83 ((52, .bool true) :: [(6, .bool (many2 (geta l k))), (0, v), (3, .string (lastK l k)), (11, v), (12, .int .i64 l.length), (13, .int .i64 k), (5, .pointer (some ⟨g, 0, none⟩))]) a ∧ (true = kindB (geta l k) ∧ false = orderB l k ∧ false = nameB (geta l k)) ∧ Mw w0 l k g w) (sel [1, 1, 1, 0, 1, 4, 4, 1, 1, 0, 4, 1, 1, 0, 4, 1, 3, 1, 3, 1, 2] rulesR) No No 0 (fun a w => Fr 83 [(2, .int .i64 (rulesE l))] a ∧ Below w0.heap.size w0 w) := by
  refine T3.leaf ?_
  rintro Q JS JX JT K hS hK hX hE hT hR a w ⟨⟨f, rfl, q52, q6, q0, q3, q11, q12, q13, q5, _⟩, hC, hM⟩
  have He := Lib.hid (hM.ends hl (by rw [show ruleAt l k = 4 by unfold ruleAt; rw [if_neg (by rw [← hC.2.2]; decide), if_neg (by rw [← hC.2.1]; decide), if_pos hC.1.symm]]; decide))
  have Hv := Lib.hid (show ruleAt l k = 4 by rw [show ruleAt l k = 4 by unfold ruleAt; rw [if_neg (by rw [← hC.2.2]; decide), if_neg (by rw [← hC.2.1]; decide), if_pos hC.1.symm]])
  have hb := hM.bel
  clear hC
  rw [frame83, show f 52 = .bool true from q52, show f 6 = .bool (many2 (geta l k)) from q6, show f 0 = v from q0, show f 3 = .string (lastK l k) from q3, show f 11 = v from q11, show f 12 = .int .i64 l.length from q12, show f 13 = .int .i64 k from q13, show f 5 = .pointer (some ⟨g, 0, none⟩) from q5]
  clear q52 q6 q0 q3 q11 q12 q13 q5
  conv => arg 2; whnf
  go_wp2_with fail
  refine Met.intro (hT _ _ ?_)
  exact ⟨Fr.of _ rfl ⟨by rw [He.out, Hv.out]; rfl, trivial⟩, hb⟩

set_option maxRecDepth 100000 in
set_option maxHeartbeats 1000000 in
theorem rr_m2 (v : Value) (l : List RuleL) (w0 : World) (k : Int) (g : Nat) (hz : ∀ r ∈ l, RuleOk r) (hl : ¬ 100 < l.length) : T3 Tryd.prog (fun a w => (True) ∧ Mw w0 l k g w ∧ Fr 83 ([(0, v), (3, .string (lastK l k)), (11, v), (12, .int .i64 l.length), (13, .int .i64 k), (5, .pointer (some ⟨g, 0, none⟩))]) a) (sel [1, 1, 1, 0, 1, 4, 4, 1, 1, 0, 4, 1, 0] rulesR)
    (fun a w => (True) ∧ Mw w0 l k g w ∧ Fr 83 ((6, .bool (many2 (geta l k))) :: [(0, v), (3, .string (lastK l k)), (11, v), (12, .int .i64 l.length), (13, .int .i64 k), (5, .pointer (some ⟨g, 0, none⟩))]) a) No 0
    (fun a w => Fr 83 [(2, .int .i64 (rulesE l))] a ∧ Below w0.heap.size w0 w) := by
  refine T3.leaf ?_
  rintro Q JS JX JT K hS hK hX hE hT hR a w ⟨hC, hM, ⟨f, rfl, q0, q3, q11, q12, q13, q5, _⟩⟩
  have HC := Lib.hid hC
  clear hC
  have hr := hz _ (geta_mem hM.k0 hM.k1)
  have hk0 := hM.k0
  have hk1 := hM.k1
  have hcp := hM.copy.2
  rw [frame83, show f 0 = v from q0, show f 3 = .string (lastK l k) from q3, show f 11 = v from q11, show f 12 = .int .i64 l.length from q12, show f 13 = .int .i64 k from q13, show f 5 = .pointer (some ⟨g, 0, none⟩) from q5]
  clear q0 q3 q11 q12 q13 q5
  conv => arg 2; whnf
  have c3 := hcp 3 _ rfl
  clear hcp hr
  have Ho := Lib.hid (show many2 (geta l k) = ((geta l k).kind == 2 || (geta l k).kind == 3) from rfl)
  generalize (geta l k).kind = n0 at *
  cases e1 : (n0 == 2)
  · cases e2 : (n0 == 3)
    · have Hq := Lib.hid (show false = many2 (geta l k) by rw [Ho.out, e1, e2]; rfl)
      go_wp2_with fail
      refine Met.intro (hS _ _ ?_)
      exact ⟨HC.out, hM, Fr.of _ rfl ⟨by rw [← Hq.out]; rfl, rfl, rfl, rfl, rfl, rfl, rfl, trivial⟩⟩
    · have Hq := Lib.hid (show true = many2 (geta l k) by rw [Ho.out, e1, e2]; rfl)
      go_wp2_with fail
      refine Met.intro (hS _ _ ?_)
      exact ⟨HC.out, hM, Fr.of _ rfl ⟨by rw [← Hq.out]; rfl, rfl, rfl, rfl, rfl, rfl, rfl, trivial⟩⟩
  · have Hq := Lib.hid (show true = many2 (geta l k) by rw [Ho.out, e1]; rfl)
    go_wp2_with fail
    refine Met.intro (hS _ _ ?_)
    exact ⟨HC.out, hM, Fr.of _ rfl ⟨by rw [← Hq.out]; rfl, rfl, rfl, rfl, rfl, rfl, rfl, trivial⟩⟩

set_option maxRecDepth 100000 in
set_option maxHeartbeats 1000000 in
theorem rr_many (v : Value) (l : List RuleL) (w0 : World) (k : Int) (g : Nat) (hz : ∀ r ∈ l, RuleOk r) (hl : ¬ 100 < l.length) : T3 Tryd.prog (fun a w => (false = kindB (geta l k) ∧ false = orderB l k ∧ false = nameB (geta l k)) ∧ Mw w0 l k g w ∧ Fr 83 ([(6, .bool (many2 (geta l k))), (0, v), (3, .string (lastK l k)), (11, v), (12, .int .i64 l.length), (13, .int .i64 k), (5, .pointer (some ⟨g, 0, none⟩))]) a) (sel [1, 1, 1, 0, 1, 4, 4, 1, 1, 0, 4, 1, 1, 0, 4, 1, 3, 1, 3, 1, 3, 0] rulesR)
    (fun a w => ∃ q, Fr 83 ((57, .bool q) :: [(0, v), (3, .string (lastK l k)), (11, v), (12, .int .i64 l.length), (13, .int .i64 k), (5, .pointer (some ⟨g, 0, none⟩))]) a ∧ ((q = manyBad (geta l k) ∧ false = kindB (geta l k) ∧ false = orderB l k ∧ false = nameB (geta l k)) ∧ Mw w0 l k g w)) No 0
    (fun a w => Fr 83 [(2, .int .i64 (rulesE l))] a ∧ Below w0.heap.size w0 w) := by
  refine T3.leaf ?_
  rintro Q JS JX JT K hS hK hX hE hT hR a w ⟨hC, hM, ⟨f, rfl, q6, q0, q3, q11, q12, q13, q5, _⟩⟩
  have HC := Lib.hid hC
  clear hC
  have hr := hz _ (geta_mem hM.k0 hM.k1)
  have hk0 := hM.k0
  have hk1 := hM.k1
  have hcp := hM.copy.2
  rw [frame83, show f 6 = .bool (many2 (geta l k)) from q6, show f 0 = v from q0, show f 3 = .string (lastK l k) from q3, show f 11 = v from q11, show f 12 = .int .i64 l.length from q12, show f 13 = .int .i64 k from q13, show f 5 = .pointer (some ⟨g, 0, none⟩) from q5]
  clear q6 q0 q3 q11 q12 q13 q5
  conv => arg 2; whnf
  have c4 := hcp 4 _ rfl
  clear hcp hr
  have Hm := Lib.hid (show manyBad (geta l k) = if many2 (geta l k) = true then outB (geta l k).many 1 100000 else (geta l k).many != 0 from rfl)
  generalize (geta l k).many = n1 at *
  cases hm2 : many2 (geta l k)
  · cases hn : (n1 != 0)
    · have Hq := Lib.hid (show false = manyBad (geta l k) by rw [Hm.out, hm2, hn]; rfl)
      go_wp2_with fail
      refine Met.intro (hS _ _ ?_)
      exact ⟨false, Fr.of _ rfl ⟨rfl, rfl, rfl, rfl, rfl, rfl, rfl, trivial⟩, ⟨Hq.out, HC.out⟩, hM⟩
    · have Hq := Lib.hid (show true = manyBad (geta l k) by rw [Hm.out, hm2, hn]; rfl)
      go_wp2_with fail
      refine Met.intro (hS _ _ ?_)
      exact ⟨true, Fr.of _ rfl ⟨rfl, rfl, rfl, rfl, rfl, rfl, rfl, trivial⟩, ⟨Hq.out, HC.out⟩, hM⟩
  · cases ho : outB n1 1 100000
    · have Hq := Lib.hid (show false = manyBad (geta l k) by rw [Hm.out, hm2, ho]; rfl)
      have ho := Lib.hid (show (!outB n1 1 100000) = true by rw [ho]; rfl)
      go_wp2_with (go_at_call 34; refine (in_is _ _ _ _ ho.out _).mono ?_; rintro e w1 ⟨rfl, rfl⟩)
      refine Met.intro (hS _ _ ?_)
      exact ⟨false, Fr.of _ rfl ⟨rfl, rfl, rfl, rfl, rfl, rfl, rfl, trivial⟩, ⟨Hq.out, HC.out⟩, hM⟩
    · have Hq := Lib.hid (show true = manyBad (geta l k) by rw [Hm.out, hm2, ho]; rfl)
      have ho := Lib.hid (show (!outB n1 1 100000) = false by rw [ho]; rfl)
      go_wp2_with (go_at_call 34; refine (in_is _ _ _ _ ho.out _).mono ?_; rintro e w1 ⟨rfl, rfl⟩)
      refine Met.intro (hS _ _ ?_)
      exact ⟨true, Fr.of _ rfl ⟨rfl, rfl, rfl, rfl, rfl, rfl, rfl, trivial⟩, ⟨Hq.out, HC.out⟩, hM⟩

set_option maxRecDepth 100000 in
set_option maxHeartbeats 1000000 in
theorem rr_many1 (v : Value) (l : List RuleL) (w0 : World) (k : Int) (g : Nat) (hz : ∀ r ∈ l, RuleOk r) (hl : ¬ 100 < l.length) : T3 Tryd.prog (fun a w => Fr 83 ((57, .bool true) :: [(0, v), (3, .string (lastK l k)), (11, v), (12, .int .i64 l.length), (13, .int .i64 k), (5, .pointer (some ⟨g, 0, none⟩))]) a ∧ (true = manyBad (geta l k) ∧ false = kindB (geta l k) ∧ false = orderB l k ∧ false = nameB (geta l k)) ∧ Mw w0 l k g w) (sel [1, 1, 1, 0, 1, 4, 4, 1, 1, 0, 4, 1, 1, 0, 4, 1, 3, 1, 3, 1, 3, 1, 2] rulesR) No No 0 (fun a w => Fr 83 [(2, .int .i64 (rulesE l))] a ∧ Below w0.heap.size w0 w) := by
  refine T3.leaf ?_
  rintro Q JS JX JT K hS hK hX hE hT hR a w ⟨⟨f, rfl, q57, q0, q3, q11, q12, q13, q5, _⟩, hC, hM⟩
  have Hv := Lib.hid (show ruleAt l k = 1 by unfold ruleAt; rw [if_neg (by rw [← hC.2.2.2]; decide), if_neg (by rw [← hC.2.2.1]; decide), if_neg (by rw [← hC.2.1]; decide), if_pos hC.1.symm])
  have He := Lib.hid (hM.ends hl (by rw [Hv.out]; decide))
  have hb := hM.bel
  clear hC
  rw [frame83, show f 57 = .bool true from q57, show f 0 = v from q0, show f 3 = .string (lastK l k) from q3, show f 11 = v from q11, show f 12 = .int .i64 l.length from q12, show f 13 = .int .i64 k from q13, show f 5 = .pointer (some ⟨g, 0, none⟩) from q5]
  clear q57 q0 q3 q11 q12 q13 q5
  conv => arg 2; whnf
  go_wp2_with fail
  refine Met.intro (hT _ _ ?_)
  exact ⟨Fr.of _ rfl ⟨by rw [He.out, Hv.out]; rfl, trivial⟩, hb⟩

set_option maxRecDepth 100000 in
set_option maxHeartbeats 1000000 in
theorem rr_amt (v : Value) (l : List RuleL) (w0 : World) (k : Int) (g : Nat) (hz : ∀ r ∈ l, RuleOk r) (hl : ¬ 100 < l.length) : T3 Tryd.prog (fun a w => (false = manyBad (geta l k) ∧ false = kindB (geta l k) ∧ false = orderB l k ∧ false = nameB (geta l k)) ∧ Mw w0 l k g w ∧ Fr 83 ([(0, v), (3, .string (lastK l k)), (11, v), (12, .int .i64 l.length), (13, .int .i64 k), (5, .pointer (some ⟨g, 0, none⟩))]) a) (sel [1, 1, 1, 0, 1, 4, 4, 1, 1, 0, 4, 1, 1, 1, 0, 0] rulesR)
    (fun a w => (false = manyBad (geta l k) ∧ false = kindB (geta l k) ∧ false = orderB l k ∧ false = nameB (geta l k)) ∧ Mw w0 l k g w ∧ Fr 83 ((7, .int .i64 (amountE (geta l k).num (geta l k).den 10000)) :: [(0, v), (3, .string (lastK l k)), (11, v), (12, .int .i64 l.length), (13, .int .i64 k), (5, .pointer (some ⟨g, 0, none⟩))]) a) No 0
    (fun a w => Fr 83 [(2, .int .i64 (rulesE l))] a ∧ Below w0.heap.size w0 w) := by
  refine T3.leaf ?_
  rintro Q JS JX JT K hS hK hX hE hT hR a w ⟨hC, hM, ⟨f, rfl, q0, q3, q11, q12, q13, q5, _⟩⟩
  have HC := Lib.hid hC
  clear hC
  have hr := hz _ (geta_mem hM.k0 hM.k1)
  have hk0 := hM.k0
  have hk1 := hM.k1
  have hcp := hM.copy.2
  rw [frame83, show f 0 = v from q0, show f 3 = .string (lastK l k) from q3, show f 11 = v from q11, show f 12 = .int .i64 l.length from q12, show f 13 = .int .i64 k from q13, show f 5 = .pointer (some ⟨g, 0, none⟩) from q5]
  clear q0 q3 q11 q12 q13 q5
  conv => arg 2; whnf
  have c5 := hcp 5 _ rfl
  have c6 := hcp 6 _ rfl
  clear hcp
  have y0 := hr.num0
  have y1 := hr.num1
  have y2 := hr.den0
  have y3 := hr.den1
  clear hr
  generalize (geta l k).num = n1 at *
  generalize (geta l k).den = n2 at *
  go_wp2_with (go_at_call 35; refine (pointsFault_ref n1 n2 10000 _ y0 y1 y2 y3 (by decide) (by decide)).mono ?_; rintro e w1 ⟨rfl, hb⟩; replace hM := hM.below hb; clear hb)
  refine Met.intro (hS _ _ ?_)
  exact ⟨HC.out, hM, Fr.of _ rfl ⟨rfl, rfl, rfl, rfl, rfl, rfl, rfl, trivial⟩⟩

set_option maxRecDepth 100000 in
set_option maxHeartbeats 1000000 in
theorem rr_amt2 (v : Value) (l : List RuleL) (w0 : World) (k : Int) (g : Nat) (hz : ∀ r ∈ l, RuleOk r) (hl : ¬ 100 < l.length) : T3 Tryd.prog (fun a w => (false = manyBad (geta l k) ∧ false = kindB (geta l k) ∧ false = orderB l k ∧ false = nameB (geta l k)) ∧ Mw w0 l k g w ∧ Fr 83 ([(7, .int .i64 (amountE (geta l k).num (geta l k).den 10000)), (0, v), (3, .string (lastK l k)), (11, v), (12, .int .i64 l.length), (13, .int .i64 k), (5, .pointer (some ⟨g, 0, none⟩))]) a) (sel [1, 1, 1, 0, 1, 4, 4, 1, 1, 0, 4, 1, 1, 1, 0, 1, 0] rulesR)
    (fun a w => ∃ q, Fr 83 ((78, .bool q) :: [(7, .int .i64 (amountE (geta l k).num (geta l k).den 10000)), (0, v), (3, .string (lastK l k)), (11, v), (12, .int .i64 l.length), (13, .int .i64 k), (5, .pointer (some ⟨g, 0, none⟩))]) a ∧ (((q = true ↔ (amountE (geta l k).num (geta l k).den 10000) ≠ 0) ∧ false = manyBad (geta l k) ∧ false = kindB (geta l k) ∧ false = orderB l k ∧ false = nameB (geta l k)) ∧ Mw w0 l k g w)) No 0
    (fun a w => Fr 83 [(2, .int .i64 (rulesE l))] a ∧ Below w0.heap.size w0 w) := by
  refine T3.leaf ?_
  rintro Q JS JX JT K hS hK hX hE hT hR a w ⟨hC, hM, ⟨f, rfl, q7, q0, q3, q11, q12, q13, q5, _⟩⟩
  have HC := Lib.hid hC
  clear hC
  have hr := hz _ (geta_mem hM.k0 hM.k1)
  have hk0 := hM.k0
  have hk1 := hM.k1
  have hcp := hM.copy.2
  rw [frame83, show f 7 = .int .i64 (amountE (geta l k).num (geta l k).den 10000) from q7, show f 0 = v from q0, show f 3 = .string (lastK l k) from q3, show f 11 = v from q11, show f 12 = .int .i64 l.length from q12, show f 13 = .int .i64 k from q13, show f 5 = .pointer (some ⟨g, 0, none⟩) from q5]
  clear q7 q0 q3 q11 q12 q13 q5
  conv => arg 2; whnf
  clear hcp hr
  generalize hx : amountE (geta l k).num (geta l k).den 10000 = x at *
  have Hx := Lib.hid hx
  clear hx
  cases hn : (x != 0)
  · have Hq := Lib.hid (show x = 0 by simpa using hn)
    go_wp2_with fail
    refine Met.intro (hS _ _ ?_)
    exact ⟨false, Fr.of _ rfl ⟨rfl, rfl, rfl, rfl, rfl, rfl, rfl, rfl, trivial⟩, ⟨by simpa using Hq.out, HC.out⟩, hM⟩
  · have Hq := Lib.hid (show x ≠ 0 by simpa using hn)
    go_wp2_with fail
    refine Met.intro (hS _ _ ?_)
    exact ⟨true, Fr.of _ rfl ⟨rfl, rfl, rfl, rfl, rfl, rfl, rfl, rfl, trivial⟩, ⟨by simpa using Hq.out, HC.out⟩, hM⟩

set_option maxRecDepth 100000 in
set_option maxHeartbeats 1000000 in
theorem rr_amtR (v : Value) (l : List RuleL) (w0 : World) (k : Int) (g : Nat) (hz : ∀ r ∈ l, RuleOk r) (hl : ¬ 100 < l.length) : T3 Tryd.prog (fun a w => Fr 83 ((78, .bool true) :: [(7, .int .i64 (amountE (geta l k).num (geta l k).den 10000)), (0, v), (3, .string (lastK l k)), (11, v), (12, .int .i64 l.length), (13, .int .i64 k), (5, .pointer (some ⟨g, 0, none⟩))]) a ∧ ((amountE (geta l k).num (geta l k).den 10000) ≠ 0 ∧ false = manyBad (geta l k) ∧ false = kindB (geta l k) ∧ false = orderB l k ∧ false = nameB (geta l k)) ∧ Mw w0 l k g w) (sel [1, 1, 1, 0, 1, 4, 4, 1, 1, 0, 4, 1, 1, 1, 0, 1, 1, 2] rulesR) No No 0 (fun a w => Fr 83 [(2, .int .i64 (rulesE l))] a ∧ Below w0.heap.size w0 w) := by
  refine T3.leaf ?_
  rintro Q JS JX JT K hS hK hX hE hT hR a w ⟨⟨f, rfl, q78, q7, q0, q3, q11, q12, q13, q5, _⟩, hC, hM⟩
  have hC1 := hC.1
  have Hv := Lib.hid (show ruleAt l k = (amountE (geta l k).num (geta l k).den 10000) by unfold ruleAt; rw [if_neg (by rw [← hC.2.2.2.2]; decide), if_neg (by rw [← hC.2.2.2.1]; decide), if_neg (by rw [← hC.2.2.1]; decide), if_neg (by rw [← hC.2.1]; decide)])
  have He := Lib.hid (hM.ends hl (by rw [Hv.out]; exact hC1))
  have hb := hM.bel
  clear hC hC1
  rw [frame83, show f 78 = .bool true from q78, show f 7 = .int .i64 (amountE (geta l k).num (geta l k).den 10000) from q7, show f 0 = v from q0, show f 3 = .string (lastK l k) from q3, show f 11 = v from q11, show f 12 = .int .i64 l.length from q12, show f 13 = .int .i64 k from q13, show f 5 = .pointer (some ⟨g, 0, none⟩) from q5]
  clear q78 q7 q0 q3 q11 q12 q13 q5
  conv => arg 2; whnf
  go_wp2_with fail
  refine Met.intro (hT _ _ ?_)
  exact ⟨Fr.of _ rfl ⟨by rw [He.out, Hv.out]; rfl, trivial⟩, hb⟩

def rrI (v : Value) (l : List RuleL) (w0 : World) (k : Int) (a : Act) (w : World) : Prop := (0 ≤ k ∧ k ≤ l.length ∧ NoErr (ruleAt l) k) ∧ Below w0.heap.size w0 w ∧ Fr 83 [(0, v), (3, .string (lastK l k)), (11, v), (12, .int .i64 l.length), (13, .int .i64 k)] a
set_option maxRecDepth 100000 in
set_option maxHeartbeats 1000000 in
theorem rr_last (v : Value) (l : List RuleL) (w0 : World) (k : Int) (g : Nat) (hz : ∀ r ∈ l, RuleOk r) (hl : ¬ 100 < l.length) : T3 Tryd.prog (fun a w => ((amountE (geta l k).num (geta l k).den 10000) = 0 ∧ false = manyBad (geta l k) ∧ false = kindB (geta l k) ∧ false = orderB l k ∧ false = nameB (geta l k)) ∧ Mw w0 l k g w ∧ Fr 83 [(7, .int .i64 (amountE (geta l k).num (geta l k).den 10000)), (0, v), (3, .string (lastK l k)), (11, v), (12, .int .i64 l.length), (13, .int .i64 k), (5, .pointer (some ⟨g, 0, none⟩))] a) (sel [1, 1, 1, 0, 1, 4, 4, 1, 1, 0, 4, 1, 1, 1, 1] rulesR)
    (fun a w => (0 ≤ k ∧ k < l.length ∧ NoErr (ruleAt l) (k + 1)) ∧ Below w0.heap.size w0 w ∧ Fr 83 [(3, .string (lastK l (k + 1))), (0, v), (11, v), (12, .int .i64 l.length), (13, .int .i64 k)] a) No 0 (fun a w => Fr 83 [(2, .int .i64 (rulesE l))] a ∧ Below w0.heap.size w0 w) := by
  refine T3.leaf ?_
  rintro Q JS JX JT K hS hK hX hE hT hR a w ⟨hC, hM, ⟨f, rfl, q7, q0, q3, q11, q12, q13, q5, _⟩⟩
  have ha : ruleAt l k = 0 := by
    unfold ruleAt; rw [if_neg (by rw [← hC.2.2.2.2]; decide), if_neg (by rw [← hC.2.2.2.1]; decide), if_neg (by rw [← hC.2.2.1]; decide), if_neg (by rw [← hC.2.1]; decide)]
    exact hC.1
  have hst := Lib.hid (hM.ok.step ha)
  have hk0 := hM.k0
  have hk1 := hM.k1
  have hb := hM.bel
  have hcp := hM.copy.2
  have c0 := hcp 0 _ rfl
  have Hl := Lib.hid (lastK_succ l k hk0)
  clear hcp hC ha
  generalize (geta l k).key = s0 at *
  rw [frame83, show f 7 = .int .i64 (amountE (geta l k).num (geta l k).den 10000) from q7, show f 0 = v from q0, show f 3 = .string (lastK l k) from q3, show f 11 = v from q11, show f 12 = .int .i64 l.length from q12, show f 13 = .int .i64 k from q13, show f 5 = .pointer (some ⟨g, 0, none⟩) from q5]
  clear q7 q0 q3 q11 q12 q13 q5
  conv => arg 2; whnf
  go_wp2_with fail
  refine Met.intro (hS _ _ ?_)
  exact ⟨⟨hk0, hk1, hst.out⟩, hb, Fr.of _ rfl ⟨by rw [Hl.out]; rfl, rfl, rfl, rfl, rfl, trivial⟩⟩

set_option maxRecDepth 100000 in
set_option maxHeartbeats 1000000 in
theorem rr_next (v : Value) (l : List RuleL) (w0 : World) (k : Int) (h100 : ¬ 100 < l.length) : T3 Tryd.prog (fun a w => (0 ≤ k ∧ k < l.length ∧ NoErr (ruleAt l) (k + 1)) ∧ Below w0.heap.size w0 w ∧ Fr 83 [(3, .string (lastK l (k + 1))), (0, v), (11, v), (12, .int .i64 l.length), (13, .int .i64 k)] a) (sel [1, 1, 1, 0, 1, 4, 4, 1, 1, 1] rulesR) (rrI v l w0 (k + 1)) No 0 (fun a w => Fr 83 [(2, .int .i64 (rulesE l))] a ∧ Below w0.heap.size w0 w) := by
  refine T3.leaf ?_
  rintro Q JS JX JT K hS hK hX hE hT hR a w ⟨⟨hk0, hk1, hst⟩, hb, ⟨f, rfl, q3, q0, q11, q12, q13, _⟩⟩
  have hst := Lib.hid hst
  rw [frame83, show f 3 = .string (lastK l (k + 1)) from q3, show f 0 = v from q0, show f 11 = v from q11, show f 12 = .int .i64 l.length from q12, show f 13 = .int .i64 k from q13]
  clear q3 q0 q11 q12 q13
  conv => arg 2; whnf
  go_wp2_with fail
  refine Met.intro (hS _ _ ?_)
  exact ⟨⟨by omega, by omega, hst.out⟩, hb, Fr.of _ rfl ⟨rfl, rfl, rfl, rfl, rfl, trivial⟩⟩

set_option maxRecDepth 100000 in
set_option maxHeartbeats 1000000 in
theorem rr_head (v : Value) (l : List RuleL) (w0 : World) (k : Int) : T3 Tryd.prog (rrI v l w0 k) (sel [1, 1, 1, 0, 1, 4, 4, 0] rulesR) (fun a w => ∃ q, Fr 83 ((14, .bool q) :: [(0, v), (3, .string (lastK l k)), (11, v), (12, .int .i64 l.length), (13, .int .i64 k)]) a ∧ ((q = true ↔ k < l.length) ∧ (0 ≤ k ∧ k ≤ l.length ∧ NoErr (ruleAt l) k) ∧ Below w0.heap.size w0 w)) No 0 (fun a w => Fr 83 [(2, .int .i64 (rulesE l))] a ∧ Below w0.heap.size w0 w) := by
  refine T3.leaf ?_
  rintro Q JS JX JT K hS hK hX hE hT hR a w ⟨hC, hb, ⟨f, rfl, q0, q3, q11, q12, q13, _⟩⟩
  have HC := Lib.hid hC
  rw [frame83, show f 0 = v from q0, show f 3 = .string (lastK l k) from q3, show f 11 = v from q11, show f 12 = .int .i64 l.length from q12, show f 13 = .int .i64 k from q13]
  clear q0 q3 q11 q12 q13
  conv => arg 2; whnf
  by_cases hlt : k < l.length
  · go_wp2_with fail
    refine Met.intro (hS _ _ ?_)
    exact ⟨true, Fr.of _ rfl ⟨rfl, rfl, rfl, rfl, rfl, rfl, trivial⟩, ⟨fun _ => hlt, fun _ => rfl⟩, HC.out, hb⟩
  · have hpb : decide (k < l.length) = false := by simp; omega
    go_wp2_with fail
    refine Met.intro (hS _ _ ?_)
    exact ⟨false, Fr.of _ rfl ⟨rfl, rfl, rfl, rfl, rfl, rfl, trivial⟩, ⟨(fun h => by cases h), fun h => absurd h (by omega)⟩, HC.out, hb⟩

set_option maxRecDepth 100000 in
set_option maxHeartbeats 1000000 in
theorem rr_copy (v : Value) (l : List RuleL) (w0 : World) (k : Int) (hz : ∀ r ∈ l, RuleOk r)  (hrow : l.length = 0 ∨ ∃ b off cap, v = .slice (some ⟨b, off, none⟩) l.length cap ∧ b < w0.heap.size ∧ (l.length ≤ cap ∧ cap ≤ 9223372036854775807) ∧ ∀ i : Int, 0 ≤ i → i < l.length → ∀ j u, (encR (geta l i))[j]? = some u → w0.cell? ⟨b, off + i.toNat * 7 + j, none⟩ = some u) : T3 Tryd.prog (fun a w => k < l.length ∧ rrI v l w0 k a w) (sel [1, 1, 1, 0, 1, 4, 4, 1, 1, 0, 4, 0] rulesR) (fun a w => ∃ g : Nat, True ∧ Mw w0 l k g w ∧ Fr 83 [(0, v), (3, .string (lastK l k)), (11, v), (12, .int .i64 l.length), (13, .int .i64 k), (5, .pointer (some ⟨g, 0, none⟩))] a) No 0 (fun a w => Fr 83 [(2, .int .i64 (rulesE l))] a ∧ Below w0.heap.size w0 w) := by
  refine T3.leaf ?_
  rintro Q JS JX JT K hS hK hX hE hT hR a w ⟨hlt, ⟨hk0, hk1, hok⟩, hb, ⟨f, rfl, q0, q3, q11, q12, q13, _⟩⟩
  rw [frame83, show f 0 = v from q0, show f 3 = .string (lastK l k) from q3, show f 11 = v from q11, show f 12 = .int .i64 l.length from q12, show f 13 = .int .i64 k from q13]
  clear q0 q3 q11 q12 q13
  conv => arg 2; whnf
  rcases hrow with hrow | ⟨b, off, cap, rfl, hbs, hcm, hcell⟩
  · omega
  have tr : ∀ j u, (encR (geta l k))[j]? = some u → w.cell? ⟨b, off + k.toNat * 7 + j, none⟩ = some u := fun j u h => (hb.cell (p := ⟨b, off + k.toNat * 7 + j, none⟩) hbs).trans (hcell k hk0 hlt j u h)
  have t0 := tr 0 _ rfl
  have t1 := tr 1 _ rfl
  have t2 := tr 2 _ rfl
  have t3 := tr 3 _ rfl
  have t4 := tr 4 _ rfl
  have t5 := tr 5 _ rfl
  have t6 := tr 6 _ rfl
  rw [Nat.add_zero] at t0
  have hM : Mw w0 l k w.heap.size (w.alloc (.cells (encR (geta l k)).toArray 57)) := ⟨hk0, hlt, hok, ⟨by simp, fun j u hu => cells_new w (encR (geta l k)).toArray 57 j u (by simpa using hu)⟩, hb.alloc hb.size _⟩
  have HM := Lib.hid hM
  unfold encR at HM
  clear hM tr hcell hok
  generalize (geta l k).key = s0 at *
  generalize (geta l k).stat = s1 at *
  generalize (geta l k).pos = s2 at *
  generalize (geta l k).kind = n0 at *
  generalize (geta l k).many = n1 at *
  generalize (geta l k).num = n2 at *
  generalize (geta l k).den = n3 at *
  go_wp2_with fail
  refine Met.intro (hS _ _ ?_)
  exact ⟨_, trivial, HM.out, Fr.of _ rfl ⟨rfl, rfl, rfl, rfl, rfl, rfl, trivial⟩⟩

set_option maxRecDepth 100000 in
set_option maxHeartbeats 1000000 in
theorem rr_sw (v : Value) (l : List RuleL) (w0 : World) (k : Int) (g : Nat) (hz : ∀ r ∈ l, RuleOk r) (hl : ¬ 100 < l.length) : T3 Tryd.prog (fun a w => True ∧ Mw w0 l k g w ∧ Fr 83 [(6, .bool (many2 (geta l k))), (0, v), (3, .string (lastK l k)), (11, v), (12, .int .i64 l.length), (13, .int .i64 k), (5, .pointer (some ⟨g, 0, none⟩))] a) (sel [1, 1, 1, 0, 1, 4, 4, 1, 1, 0, 4, 1, 1, 0, 4] rulesR) (fun a w => (false = manyBad (geta l k) ∧ false = kindB (geta l k) ∧ false = orderB l k ∧ false = nameB (geta l k)) ∧ Mw w0 l k g w ∧ Fr 83 [(0, v), (3, .string (lastK l k)), (11, v), (12, .int .i64 l.length), (13, .int .i64 k), (5, .pointer (some ⟨g, 0, none⟩))] a) No 0 (fun a w => Fr 83 [(2, .int .i64 (rulesE l))] a ∧ Below w0.heap.size w0 w) :=
  T3.test (s := (sel [1, 1, 1, 0, 1, 4, 4, 1, 1, 0, 4, 1, 1, 0, 4, 0] rulesR)) (x := (sel [1, 1, 1, 0, 1, 4, 4, 1, 1, 0, 4, 1, 1, 0, 4, 1, 2] rulesR)) (y := (sel [1, 1, 1, 0, 1, 4, 4, 1, 1, 0, 4, 1, 1, 0, 4, 1, 3] rulesR)) (l := [(6, .bool (many2 (geta l k))), (0, v), (3, .string (lastK l k)), (11, v), (12, .int .i64 l.length), (13, .int .i64 k), (5, .pointer (some ⟨g, 0, none⟩))]) (C := fun q => q = nameB (geta l k)) (W := Mw w0 l k g) (by decide) (rr_name v l w0 k g hz hl) (T3.noS (rr_name5 v l w0 k g hz hl)) (T3.test (s := (sel [1, 1, 1, 0, 1, 4, 4, 1, 1, 0, 4, 1, 1, 0, 4, 1, 3, 0] rulesR)) (x := (sel [1, 1, 1, 0, 1, 4, 4, 1, 1, 0, 4, 1, 1, 0, 4, 1, 3, 1, 2] rulesR)) (y := (sel [1, 1, 1, 0, 1, 4, 4, 1, 1, 0, 4, 1, 1, 0, 4, 1, 3, 1, 3] rulesR)) (l := [(6, .bool (many2 (geta l k))), (0, v), (3, .string (lastK l k)), (11, v), (12, .int .i64 l.length), (13, .int .i64 k), (5, .pointer (some ⟨g, 0, none⟩))]) (C := fun q => q = orderB l k ∧ false = nameB (geta l k)) (W := Mw w0 l k g) (by decide) (rr_order v l w0 k g hz hl) (T3.noS (rr_order7 v l w0 k g hz hl)) (T3.test (s := (sel [1, 1, 1, 0, 1, 4, 4, 1, 1, 0, 4, 1, 1, 0, 4, 1, 3, 1, 3, 0] rulesR)) (x := (sel [1, 1, 1, 0, 1, 4, 4, 1, 1, 0, 4, 1, 1, 0, 4, 1, 3, 1, 3, 1, 2] rulesR)) (y := (sel [1, 1, 1, 0, 1, 4, 4, 1, 1, 0, 4, 1, 1, 0, 4, 1, 3, 1, 3, 1, 3] rulesR)) (l := [(6, .bool (many2 (geta l k))), (0, v), (3, .string (lastK l k)), (11, v), (12, .int .i64 l.length), (13, .int .i64 k), (5, .pointer (some ⟨g, 0, none⟩))]) (C := fun q => q = kindB (geta l k) ∧ false = orderB l k ∧ false = nameB (geta l k)) (W := Mw w0 l k g) (by decide) (rr_kind v l w0 k g hz hl) (T3.noS (rr_kind4 v l w0 k g hz hl)) (T3.test (s := (sel [1, 1, 1, 0, 1, 4, 4, 1, 1, 0, 4, 1, 1, 0, 4, 1, 3, 1, 3, 1, 3, 0] rulesR)) (x := (sel [1, 1, 1, 0, 1, 4, 4, 1, 1, 0, 4, 1, 1, 0, 4, 1, 3, 1, 3, 1, 3, 1, 2] rulesR)) (y := .skip) (l := [(0, v), (3, .string (lastK l k)), (11, v), (12, .int .i64 l.length), (13, .int .i64 k), (5, .pointer (some ⟨g, 0, none⟩))]) (C := fun q => q = manyBad (geta l k) ∧ false = kindB (geta l k) ∧ false = orderB l k ∧ false = nameB (geta l k)) (W := Mw w0 l k g) (by decide) (rr_many v l w0 k g hz hl) (T3.noS (rr_many1 v l w0 k g hz hl)) (T3.skip (fun a w q => q)))))

set_option maxRecDepth 100000 in
set_option maxHeartbeats 1000000 in
theorem rr_end (v : Value) (l : List RuleL) (w0 : World) (k : Int) (g : Nat) (hz : ∀ r ∈ l, RuleOk r) (hl : ¬ 100 < l.length) : T3 Tryd.prog (fun a w => (false = manyBad (geta l k) ∧ false = kindB (geta l k) ∧ false = orderB l k ∧ false = nameB (geta l k)) ∧ Mw w0 l k g w ∧ Fr 83 [(0, v), (3, .string (lastK l k)), (11, v), (12, .int .i64 l.length), (13, .int .i64 k), (5, .pointer (some ⟨g, 0, none⟩))] a) (sel [1, 1, 1, 0, 1, 4, 4, 1, 1, 0, 4, 1, 1, 1, 0] rulesR) (fun a w => ((amountE (geta l k).num (geta l k).den 10000) = 0 ∧ false = manyBad (geta l k) ∧ false = kindB (geta l k) ∧ false = orderB l k ∧ false = nameB (geta l k)) ∧ Mw w0 l k g w ∧ Fr 83 [(7, .int .i64 (amountE (geta l k).num (geta l k).den 10000)), (0, v), (3, .string (lastK l k)), (11, v), (12, .int .i64 l.length), (13, .int .i64 k), (5, .pointer (some ⟨g, 0, none⟩))] a) No 0 (fun a w => Fr 83 [(2, .int .i64 (rulesE l))] a ∧ Below w0.heap.size w0 w) := by
  refine T3.post (S := fun a w => ((false = true ↔ (amountE (geta l k).num (geta l k).den 10000) ≠ 0) ∧ false = manyBad (geta l k) ∧ false = kindB (geta l k) ∧ false = orderB l k ∧ false = nameB (geta l k)) ∧ Mw w0 l k g w ∧ Fr 83 [(7, .int .i64 (amountE (geta l k).num (geta l k).den 10000)), (0, v), (3, .string (lastK l k)), (11, v), (12, .int .i64 l.length), (13, .int .i64 k), (5, .pointer (some ⟨g, 0, none⟩))] a) (T3.seq (s := (sel [1, 1, 1, 0, 1, 4, 4, 1, 1, 0, 4, 1, 1, 1, 0, 0] rulesR)) (c := (sel [1, 1, 1, 0, 1, 4, 4, 1, 1, 0, 4, 1, 1, 1, 0, 1] rulesR)) (rr_amt v l w0 k g hz hl) (T3.test (s := (sel [1, 1, 1, 0, 1, 4, 4, 1, 1, 0, 4, 1, 1, 1, 0, 1, 0] rulesR)) (x := (sel [1, 1, 1, 0, 1, 4, 4, 1, 1, 0, 4, 1, 1, 1, 0, 1, 1, 2] rulesR)) (y := .skip) (l := [(7, .int .i64 (amountE (geta l k).num (geta l k).den 10000)), (0, v), (3, .string (lastK l k)), (11, v), (12, .int .i64 l.length), (13, .int .i64 k), (5, .pointer (some ⟨g, 0, none⟩))]) (C := fun q => (q = true ↔ (amountE (geta l k).num (geta l k).den 10000) ≠ 0) ∧ false = manyBad (geta l k) ∧ false = kindB (geta l k) ∧ false = orderB l k ∧ false = nameB (geta l k)) (W := Mw w0 l k g) (by decide) (rr_amt2 v l w0 k g hz hl) (T3.noS ((rr_amtR v l w0 k g hz hl).pre (fun a w q => ⟨q.1, ⟨q.2.1.1.1 rfl, q.2.1.2⟩, q.2.2⟩))) (T3.skip (fun a w q => q)))) (fun a w q => ?_)
  obtain ⟨hC, hM, hF⟩ := q
  have hA : (amountE (geta l k).num (geta l k).den 10000) = 0 := by
    by_cases h : (amountE (geta l k).num (geta l k).den 10000) = 0
    · exact h
    · have := hC.1.2 h
      cases this
  exact ⟨⟨hA, hC.2⟩, hM, hF⟩

set_option maxRecDepth 100000 in
set_option maxHeartbeats 1000000 in
theorem rr_round (v : Value) (l : List RuleL) (w0 : World) (k : Int) (hz : ∀ r ∈ l, RuleOk r) (hl : ¬ 100 < l.length) (hrow : l.length = 0 ∨ ∃ b off cap, v = .slice (some ⟨b, off, none⟩) l.length cap ∧ b < w0.heap.size ∧ (l.length ≤ cap ∧ cap ≤ 9223372036854775807) ∧ ∀ i : Int, 0 ≤ i → i < l.length → ∀ j u, (encR (geta l i))[j]? = some u → w0.cell? ⟨b, off + i.toNat * 7 + j, none⟩ = some u) : T3 Tryd.prog (fun a w => k < l.length ∧ rrI v l w0 k a w) (sel [1, 1, 1, 0, 1, 4, 4, 1, 1, 0, 4] rulesR) (fun a w => (0 ≤ k ∧ k < l.length ∧ NoErr (ruleAt l) (k + 1)) ∧ Below w0.heap.size w0 w ∧ Fr 83 [(3, .string (lastK l (k + 1))), (0, v), (11, v), (12, .int .i64 l.length), (13, .int .i64 k)] a) No 0 (fun a w => Fr 83 [(2, .int .i64 (rulesE l))] a ∧ Below w0.heap.size w0 w) :=
  T3.seq (s := (sel [1, 1, 1, 0, 1, 4, 4, 1, 1, 0, 4, 0] rulesR)) (c := (sel [1, 1, 1, 0, 1, 4, 4, 1, 1, 0, 4, 1] rulesR)) (rr_copy v l w0 k hz hrow) (T3.ex fun g => T3.seq (s := (sel [1, 1, 1, 0, 1, 4, 4, 1, 1, 0, 4, 1, 0] rulesR)) (c := (sel [1, 1, 1, 0, 1, 4, 4, 1, 1, 0, 4, 1, 1] rulesR)) (rr_m2 v l w0 k g hz hl) (T3.seq (s := (sel [1, 1, 1, 0, 1, 4, 4, 1, 1, 0, 4, 1, 1, 0] rulesR)) (c := (sel [1, 1, 1, 0, 1, 4, 4, 1, 1, 0, 4, 1, 1, 1] rulesR)) (T3.block (c := (sel [1, 1, 1, 0, 1, 4, 4, 1, 1, 0, 4, 1, 1, 0, 4] rulesR)) (by decide) (rr_sw v l w0 k g hz hl)) (T3.seq (s := (sel [1, 1, 1, 0, 1, 4, 4, 1, 1, 0, 4, 1, 1, 1, 0] rulesR)) (c := (sel [1, 1, 1, 0, 1, 4, 4, 1, 1, 0, 4, 1, 1, 1, 1] rulesR)) (rr_end v l w0 k g hz hl) (rr_last v l w0 k g hz hl))))

set_option maxRecDepth 100000 in
set_option maxHeartbeats 1000000 in
theorem rr_loop (v : Value) (l : List RuleL) (w0 : World) (hz : ∀ r ∈ l, RuleOk r) (hl : ¬ 100 < l.length) (hrow : l.length = 0 ∨ ∃ b off cap, v = .slice (some ⟨b, off, none⟩) l.length cap ∧ b < w0.heap.size ∧ (l.length ≤ cap ∧ cap ≤ 9223372036854775807) ∧ ∀ i : Int, 0 ≤ i → i < l.length → ∀ j u, (encR (geta l i))[j]? = some u → w0.cell? ⟨b, off + i.toNat * 7 + j, none⟩ = some u) : T3 Tryd.prog (rrI v l w0 0) (sel [1, 1, 1, 0, 1] rulesR) (rrI v l w0 l.length) No 9 (fun a w => Fr 83 [(2, .int .i64 (rulesE l))] a ∧ Below w0.heap.size w0 w) := by
  refine T3.loop (c := (sel [1, 1, 1, 0, 1, 4, 4] rulesR)) (fun n a w => ∃ k : Int, (n : Int) = l.length - k ∧ rrI v l w0 k a w) (fun a w h => ⟨l.length, 0, by omega, h⟩) (fun n => T3.ex fun k => T3.pure fun hn => ?_)
  refine T3.seq (s := (sel [1, 1, 1, 0, 1, 4, 4, 0] rulesR)) (c := (sel [1, 1, 1, 0, 1, 4, 4, 1] rulesR)) ((rr_head v l w0 k).noX) ?_
  refine T3.seq (s := (sel [1, 1, 1, 0, 1, 4, 4, 1, 0] rulesR)) (c := (sel [1, 1, 1, 0, 1, 4, 4, 1, 1] rulesR)) (S := fun a w => k < l.length ∧ rrI v l w0 k a w) ?_ (T3.seq (s := (sel [1, 1, 1, 0, 1, 4, 4, 1, 1, 0] rulesR)) (c := (sel [1, 1, 1, 0, 1, 4, 4, 1, 1, 1] rulesR)) (T3.noX (T3.block (c := (sel [1, 1, 1, 0, 1, 4, 4, 1, 1, 0, 4] rulesR)) (by decide) (rr_round v l w0 k hz hl hrow))) ?_)
  · refine T3.iff (x := .skip) (y := .exit 0) (by decide) (T3.skip ?_) (T3.exit ?_)
    · rintro a w ⟨hF, hq, hC, hb⟩
      exact ⟨hq.1 rfl, hC, hb, hF.tail⟩
    · rintro a w ⟨hF, hq, hC, hb⟩
      have hk : k = l.length := by
        by_cases h : k < l.length
        · have := hq.2 h
          cases this
        · omega
      subst hk
      exact ⟨hC, hb, hF.tail⟩
  · refine (T3.pure (R := fun a w => Below w0.heap.size w0 w ∧ Fr 83 [(3, .string (lastK l (k + 1))), (0, v), (11, v), (12, .int .i64 l.length), (13, .int .i64 k)] a) (p := 0 ≤ k ∧ k < l.length ∧ NoErr (ruleAt l) (k + 1)) fun hk => ?_)
    refine (((rr_next v l w0 k hl).pre (fun a w q => ⟨hk, q⟩)).noX).post (fun a w q => ?_)
    exact ⟨n - 1, by omega, k + 1, by omega, q⟩

set_option maxRecDepth 100000 in
set_option maxHeartbeats 1000000 in
theorem rr_s0 (v : Value) (l : List RuleL) (w0 : World) (p : Option Addr) (c : Nat) (hv : v = .slice p l.length c) : T3 Tryd.prog (fun a w => w = w0 ∧ Fr 83 [(0, v)] a) (sel [0] rulesR) (fun a w => w = w0 ∧ Fr 83 [(0, v)] a) No 9 (fun a w => Fr 83 [(2, .int .i64 (rulesE l))] a ∧ Below w0.heap.size w0 w) := by
  subst hv
  refine T3.leaf ?_
  rintro Q JS JX JT K hS hK hX hE hT hR a w ⟨hw, ⟨f, rfl, q0, _⟩⟩
  have Hw := Lib.hid hw
  clear hw
  rw [frame83, show f 0 = (.slice p l.length c) from q0]
  clear q0
  conv => arg 2; whnf
  go_wp2_with fail
  refine Met.intro (hS _ _ ?_)
  exact ⟨Hw.out, Fr.of _ rfl ⟨rfl, trivial⟩⟩

set_option maxRecDepth 100000 in
set_option maxHeartbeats 1000000 in
theorem rr_s1 (v : Value) (l : List RuleL) (w0 : World) (p : Option Addr) (c : Nat) (hv : v = .slice p l.length c) (hl : ¬ 100 < l.length) : T3 Tryd.prog (fun a w => w = w0 ∧ Fr 83 [(0, v)] a) (sel [1, 0, 0] rulesR) (fun a w => w = w0 ∧ Fr 83 [(10, .bool false), (0, v)] a) No 9 (fun a w => Fr 83 [(2, .int .i64 (rulesE l))] a ∧ Below w0.heap.size w0 w) := by
  subst hv
  have hdec : decide ((100 : Int) < l.length) = false := by simp; omega
  refine T3.leaf ?_
  rintro Q JS JX JT K hS hK hX hE hT hR a w ⟨hw, ⟨f, rfl, q0, _⟩⟩
  have Hw := Lib.hid hw
  clear hw
  rw [frame83, show f 0 = (.slice p l.length c) from q0]
  clear q0
  conv => arg 2; whnf
  go_wp2_with fail
  refine Met.intro (hS _ _ ?_)
  exact ⟨Hw.out, Fr.of _ rfl ⟨rfl, rfl, trivial⟩⟩

set_option maxRecDepth 100000 in
set_option maxHeartbeats 1000000 in
theorem rr_s2 (v : Value) (l : List RuleL) (w0 : World) (p : Option Addr) (c : Nat) (hv : v = .slice p l.length c) : T3 Tryd.prog (fun a w => w = w0 ∧ Fr 83 [(0, v)] a) (sel [1, 1, 0] rulesR) (fun a w => w = w0 ∧ Fr 83 [(3, .string ByteArray.empty), (0, v)] a) No 9 (fun a w => Fr 83 [(2, .int .i64 (rulesE l))] a ∧ Below w0.heap.size w0 w) := by
  subst hv
  refine T3.leaf ?_
  rintro Q JS JX JT K hS hK hX hE hT hR a w ⟨hw, ⟨f, rfl, q0, _⟩⟩
  have Hw := Lib.hid hw
  clear hw
  rw [frame83, show f 0 = (.slice p l.length c) from q0]
  clear q0
  conv => arg 2; whnf
  go_wp2_with fail
  refine Met.intro (hS _ _ ?_)
  exact ⟨Hw.out, Fr.of _ rfl ⟨rfl, rfl, trivial⟩⟩

set_option maxRecDepth 100000 in
set_option maxHeartbeats 1000000 in
theorem rr_s3 (v : Value) (l : List RuleL) (w0 : World) (p : Option Addr) (c : Nat) (hv : v = .slice p l.length c) : T3 Tryd.prog (fun a w => w = w0 ∧ Fr 83 [(3, .string ByteArray.empty), (0, v)] a) (sel [1, 1, 1, 0, 0] rulesR) (rrI v l w0 0) No 9 (fun a w => Fr 83 [(2, .int .i64 (rulesE l))] a ∧ Below w0.heap.size w0 w) := by
  subst hv
  refine T3.leaf ?_
  rintro Q JS JX JT K hS hK hX hE hT hR a w ⟨hw, ⟨f, rfl, q3, q0, _⟩⟩
  have Hw := Lib.hid hw
  clear hw
  rw [frame83, show f 3 = .string ByteArray.empty from q3, show f 0 = (.slice p l.length c) from q0]
  clear q3 q0
  conv => arg 2; whnf
  go_wp2_with fail
  refine Met.intro (hS _ _ ?_)
  exact ⟨⟨by omega, by omega, NoErr.zero _⟩, by rw [Hw.out]; exact Below.refl _ _, Fr.of _ rfl ⟨rfl, rfl, rfl, rfl, rfl, trivial⟩⟩

set_option maxRecDepth 100000 in
set_option maxHeartbeats 1000000 in
theorem rr_s9 (v : Value) (l : List RuleL) (w0 : World) (hl : ¬ 100 < l.length) : T3 Tryd.prog (rrI v l w0 l.length) (sel [1, 1, 1, 1, 0] rulesR) (fun a w => Fr 83 [(2, .int .i64 (rulesE l))] a ∧ Below w0.heap.size w0 w) No 9 (fun a w => Fr 83 [(2, .int .i64 (rulesE l))] a ∧ Below w0.heap.size w0 w) := by
  refine T3.leaf ?_
  rintro Q JS JX JT K hS hK hX hE hT hR a w ⟨⟨_, _, hok⟩, hb, ⟨f, rfl, q0, q3, q11, q12, q13, _⟩⟩
  have He := Lib.hid (show rulesE l = 0 by unfold rulesE; rw [if_neg hl]; exact firstErr_none hok)
  clear hok
  rw [frame83, show f 0 = v from q0, show f 3 = .string (lastK l (l.length : Int)) from q3, show f 11 = v from q11, show f 12 = .int .i64 l.length from q12, show f 13 = .int .i64 (l.length : Int) from q13]
  clear q0 q3 q11 q12 q13
  conv => arg 2; whnf
  go_wp2_with fail
  refine Met.intro (hS _ _ ?_)
  exact ⟨Fr.of _ rfl ⟨by rw [He.out]; rfl, trivial⟩, hb⟩

set_option maxRecDepth 100000 in
set_option maxHeartbeats 1000000 in
theorem rr_all (v : Value) (l : List RuleL) (w0 : World) (p : Option Addr) (c : Nat) (hv : v = .slice p l.length c) (hz : ∀ r ∈ l, RuleOk r) (hl : ¬ 100 < l.length) (hrow : l.length = 0 ∨ ∃ b off cap, v = .slice (some ⟨b, off, none⟩) l.length cap ∧ b < w0.heap.size ∧ (l.length ≤ cap ∧ cap ≤ 9223372036854775807) ∧ ∀ i : Int, 0 ≤ i → i < l.length → ∀ j u, (encR (geta l i))[j]? = some u → w0.cell? ⟨b, off + i.toNat * 7 + j, none⟩ = some u) : T3 Tryd.prog (fun a w => w = w0 ∧ Fr 83 [(0, v)] a) rulesR No No 9 (fun a w => Fr 83 [(2, .int .i64 (rulesE l))] a ∧ Below w0.heap.size w0 w) := by
  refine T3.seq (s := (sel [0] rulesR)) (c := (sel [1] rulesR)) (rr_s0 v l w0 p c hv) ?_
  refine T3.seq (s := (sel [1, 0] rulesR)) (c := (sel [1, 1] rulesR)) (S := (fun a w => w = w0 ∧ Fr 83 [(0, v)] a)) (T3.seq (s := (sel [1, 0, 0] rulesR)) (c := (sel [1, 0, 1] rulesR)) (rr_s1 v l w0 p c hv hl) ?_) ?_
  · refine T3.cond (o := .tmp 10) (x := (sel [1, 0, 1, 2] rulesR)) (y := .skip) (fun _ _ => False) (fun a w => w = w0 ∧ Fr 83 [(0, v)] a) (fun a w h => .inr ⟨h.2.eval 10 (by decide) (v := .bool false) (by simp), h.1, h.2.tail⟩) (fun _ _ h => h.elim) (T3.skip (fun _ _ h => h))
  refine T3.seq (s := (sel [1, 1, 0] rulesR)) (c := (sel [1, 1, 1] rulesR)) (rr_s2 v l w0 p c hv) ?_
  refine T3.seq (s := (sel [1, 1, 1, 0] rulesR)) (c := (sel [1, 1, 1, 1] rulesR)) (T3.seq (s := (sel [1, 1, 1, 0, 0] rulesR)) (c := (sel [1, 1, 1, 0, 1] rulesR)) (rr_s3 v l w0 p c hv) (rr_loop v l w0 hz hl hrow)) ?_
  exact T3.seq (s := (sel [1, 1, 1, 1, 0] rulesR)) (c := .ret) (rr_s9 v l w0 hl) (T3.ret (fun _ _ h => h))

set_option maxRecDepth 100000 in
set_option maxHeartbeats 1000000 in
theorem rules_ref (v : Value) (n : Nat) (l : List RuleL) (base : Nat) (w0 : World) (h : Row w0 base 7 v n (cellsOf encR l)) (hz : ∀ r ∈ l, RuleOk r) :
    Calls Tryd.prog 11 #[v] w0 fun e w' => e = .returned (.int .i64 (rulesE l)) ∧ Below w0.heap.size w0 w' := by
  obtain ⟨hl, hc⟩ := h.els encR_length (by decide)
  subst hl
  obtain ⟨p, c, hv⟩ := h.shape
  by_cases h100 : 100 < l.length
  · have he := Lib.hid (show rulesE l = 2 by simp [rulesE, h100])
    clear hc
    subst hv
    go_enter Tryd.func11, Tryd.ntmps11
    go_wp2_with fail
    go_ret
    exact ⟨ret_int he.out.symm, Below.refl _ _⟩
  · have hrow : l.length = 0 ∨ ∃ b off cap, v = .slice (some ⟨b, off, none⟩) l.length cap ∧ b < w0.heap.size ∧ (l.length ≤ cap ∧ cap ≤ 9223372036854775807) ∧ ∀ i : Int, 0 ≤ i → i < l.length → ∀ j u, (encR (geta l i))[j]? = some u → w0.cell? ⟨b, off + i.toNat * 7 + j, none⟩ = some u := by
      rcases hc with ⟨_, h0⟩ | ⟨b, off, cap, e, _, hbs, hnc, hcm, hcell⟩
      · exact .inl h0
      · exact .inr ⟨b, off, cap, e, hbs, ⟨hnc, hcm⟩, hcell⟩
    go_enter Tryd.func11, Tryd.ntmps11
    refine T3.done (s := rulesR) (rr_all v l w0 p c hv hz h100 hrow) ⟨rfl, Fr.of _ rfl ⟨rfl, trivial⟩⟩ ?_
    rintro a w ⟨⟨f, rfl, q2, _⟩, hb⟩
    rw [frame83, show f 2 = _ from q2]
    go_ret
    exact ⟨rfl, hb⟩

end Go.Proofs.YtbidnbcclibigaaDoor
