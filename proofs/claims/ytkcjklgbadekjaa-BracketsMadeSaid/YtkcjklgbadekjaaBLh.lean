/-
  The law BracketsMade: both answers are equal. No condition.
-/
import Derived.Test.YtkcjklgbadekjaaBLf
namespace Go.Proofs.Ytkcjklgbadekjaa
open Go.RowKit Go.Bw

set_option maxRecDepth 100000 in
set_option maxHeartbeats 1000000 in
theorem bt45 (n₀ : Nat) (w0 : World) (many a1 a2 : Int) (s7 : Value) (l7 : List Int) (s8 : Value) (l8 : List Int) (h7 : l7.length ≤ 50) (h8 : l8.length ≤ 50) (v15 : Value) (v17 : Value) (v19 : Value) (v26 : Value) (v28 : Value) (v30 : Value) (a : Act) (w : World) (Q : Exit → Act → World → Prop) (h : T4 n₀ w0 [(v30, 2, (anewR l8).length, cells2 (anewR l8)), (v28, 2, (fixR many l7).length, cells2 (fixR many l7)), (v26, 2, (firstR many).length, cells2 (firstR many)), (v19, 2, (anewR l8).length, cells2 (anewR l8)), (v17, 2, (fixR many l7).length, cells2 (fixR many l7)), (v15, 2, (firstR many).length, cells2 (firstR many)), (s7, 1, l7.length, l7.map (.int .i64)), (s8, 1, l8.length, l8.map (.int .i64))] [(32, .int .i64 (earlF many a1 a2)), (33, .int .i64 (earlE many a1 a2)), (30, v30), (31, .int .i64 (anewE l8)), (28, v28), (29, .int .i64 (fixE many l7)), (26, v26), (27, .int .i64 (roundsR many)), (25, .int .i64 (manyF many)), (23, .int .i64 (earlF many a1 a2)), (24, .int .i64 (earlE many a1 a2)), (21, .int .i64 (roundsR many)), (22, .int .i64 (manyF many)), (19, v19), (20, .int .i64 (anewE l8)), (17, v17), (18, .int .i64 (fixE many l7)), (15, v15), (16, .int .i64 (manyF many)), (4, .int .i64 many), (5, .int .i64 a1), (6, .int .i64 a2), (7, s7), (8, s8)] a w)
    (hQ : ∀ a w, Met (fun a w => Below n₀ w0 w ∧ Fr 242 [(2, .bool true)] a) a w → Q .normal a w) : Code.wp Try.prog (sel [1, 1, 1, 1, 1, 1, 1, 1, 1, 1, 1, 1, 1, 1, 1, 1, 1, 1, 1, 1, 1, 0] bm) Q a w := by
  obtain ⟨hb, hz, ⟨r0, r1, r2, r3, r4, r5, r6, r7, _⟩, ⟨f, rfl, q32, q33, q30, q31, q28, q29, q26, q27, q25, q23, q24, q21, q22, q19, q20, q17, q18, q15, q16, q4, q5, q6, q7, q8, _⟩⟩ := h
  rw [frame242, show f 32 = .int .i64 (earlF many a1 a2) from q32, show f 33 = .int .i64 (earlE many a1 a2) from q33, show f 30 = v30 from q30, show f 31 = .int .i64 (anewE l8) from q31, show f 28 = v28 from q28, show f 29 = .int .i64 (fixE many l7) from q29, show f 26 = v26 from q26, show f 27 = .int .i64 (roundsR many) from q27, show f 25 = .int .i64 (manyF many) from q25, show f 23 = .int .i64 (earlF many a1 a2) from q23, show f 24 = .int .i64 (earlE many a1 a2) from q24, show f 21 = .int .i64 (roundsR many) from q21, show f 22 = .int .i64 (manyF many) from q22, show f 19 = v19 from q19, show f 20 = .int .i64 (anewE l8) from q20, show f 17 = v17 from q17, show f 18 = .int .i64 (fixE many l7) from q18, show f 15 = v15 from q15, show f 16 = .int .i64 (manyF many) from q16, show f 4 = .int .i64 many from q4, show f 5 = .int .i64 a1 from q5, show f 6 = .int .i64 a2 from q6, show f 7 = s7 from q7, show f 8 = s8 from q8]
  clear q32 q33 q30 q31 q28 q29 q26 q27 q25 q23 q24 q21 q22 q19 q20 q17 q18 q15 q16 q4 q5 q6 q7 q8
  conv => arg 2; whnf
  obtain ⟨p7, c7, rfl⟩ := row_slice r6
  obtain ⟨p8, c8, rfl⟩ := row_slice r7
  have b1 : (firstR many).length ≤ 1099511627776 := by
    unfold firstR
    split
    · simp
    · rename_i h
      have h2 := outB_false (by simpa using h)
      have := bracketL_length many h2.1 h2.2
      rw [gms_length]; omega
  have b2 : (fixR many l7).length ≤ 1099511627776 := by
    unfold fixR
    split
    · rw [gms_length]; omega
    · simp
  have b3 : (anewR l8).length ≤ 1099511627776 := by
    unfold anewR
    split
    · have := anewP_length l8 (l8.length % 2) (l8.length / 2); omega
    · simp
  generalize manyF many = e1 at *
  generalize roundsR many = e2 at *
  generalize fixE many l7 = e3 at *
  generalize anewE l8 = e4 at *
  generalize earlF many a1 a2 = e5 at *
  generalize earlE many a1 a2 = e6 at *
  generalize fixR many l7 = g2 at *
  generalize firstR many = g1 at *
  generalize anewR l8 = g3 at *
  have hz0 := hz
  go_wp2_with fail
  refine (equal_pairs _ _ _ g1 0 0 _ r5 r2 b1).mono ?_
  rintro e w1 ⟨rfl, hbel⟩
  replace r0 := r0.below hbel; replace r1 := r1.below hbel; replace r2 := r2.below hbel; replace r3 := r3.below hbel; replace r4 := r4.below hbel; replace r5 := r5.below hbel; replace r6 := r6.below hbel; replace r7 := r7.below hbel; replace hz := Nat.lt_of_lt_of_le hz hbel.size; replace hb := hb.trans (hbel.mono (Nat.le_trans (Nat.le_of_lt hz0) (Nat.le_refl _))); replace hz0 := hz
  clear hbel
  go_wp2_with fail
  refine (equal_pairs _ _ _ g2 0 0 _ r4 r1 b2).mono ?_
  rintro e w1 ⟨rfl, hbel⟩
  replace r0 := r0.below hbel; replace r1 := r1.below hbel; replace r2 := r2.below hbel; replace r3 := r3.below hbel; replace r4 := r4.below hbel; replace r5 := r5.below hbel; replace r6 := r6.below hbel; replace r7 := r7.below hbel; replace hz := Nat.lt_of_lt_of_le hz hbel.size; replace hb := hb.trans (hbel.mono (Nat.le_trans (Nat.le_of_lt hz0) (Nat.le_refl _))); replace hz0 := hz
  clear hbel
  go_wp2_with fail
  refine (equal_pairs _ _ _ g3 0 0 _ r3 r0 b3).mono ?_
  rintro e w1 ⟨rfl, hbel⟩
  replace r0 := r0.below hbel; replace r1 := r1.below hbel; replace r2 := r2.below hbel; replace r3 := r3.below hbel; replace r4 := r4.below hbel; replace r5 := r5.below hbel; replace r6 := r6.below hbel; replace r7 := r7.below hbel; replace hz := Nat.lt_of_lt_of_le hz hbel.size; replace hb := hb.trans (hbel.mono (Nat.le_trans (Nat.le_of_lt hz0) (Nat.le_refl _))); replace hz0 := hz
  clear hbel
  go_wp2_with fail
  refine (finished_any _).mono ?_
  rintro e w1 ⟨rfl, hbel⟩
  replace r0 := r0.below hbel; replace r1 := r1.below hbel; replace r2 := r2.below hbel; replace r3 := r3.below hbel; replace r4 := r4.below hbel; replace r5 := r5.below hbel; replace r6 := r6.below hbel; replace r7 := r7.below hbel; replace hz := Nat.lt_of_lt_of_le hz hbel.size; replace hb := hb.trans (hbel.mono (Nat.le_trans (Nat.le_of_lt hz0) (Nat.le_refl _))); replace hz0 := hz
  clear hbel
  go_wp2
  exact ⟨hb, Fr.of _ rfl ⟨rfl, trivial⟩⟩
end Go.Proofs.Ytkcjklgbadekjaa
