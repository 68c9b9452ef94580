/-
  The law BracketsMade: what the reference answers. No condition.
-/
import Derived.Test.YtkcjklgbadekjaaBLf
namespace Go.Proofs.Ytkcjklgbadekjaa
open Go.RowKit Go.Bw

set_option maxRecDepth 100000 in
set_option maxHeartbeats 1000000 in
theorem bt40 (n₀ : Nat) (w0 : World) (many a1 a2 : Int) (s7 : Value) (l7 : List Int) (s8 : Value) (l8 : List Int) (h7 : l7.length ≤ 50) (h8 : l8.length ≤ 50) (v15 : Value) (v17 : Value) (v19 : Value) : Tri Try.prog (T4 n₀ w0 [(v19, 2, (anewR l8).length, cells2 (anewR l8)), (v17, 2, (fixR many l7).length, cells2 (fixR many l7)), (v15, 2, (firstR many).length, cells2 (firstR many)), (s7, 1, l7.length, l7.map (.int .i64)), (s8, 1, l8.length, l8.map (.int .i64))] [(27, .int .i64 0), (26, .slice none 0 0), (25, .int .i64 (manyF many)), (23, .int .i64 (earlF many a1 a2)), (24, .int .i64 (earlE many a1 a2)), (21, .int .i64 (roundsR many)), (22, .int .i64 (manyF many)), (19, v19), (20, .int .i64 (anewE l8)), (17, v17), (18, .int .i64 (fixE many l7)), (15, v15), (16, .int .i64 (manyF many)), (4, .int .i64 many), (5, .int .i64 a1), (6, .int .i64 a2), (7, s7), (8, s8)]) (sel [1, 1, 1, 1, 1, 1, 1, 1, 1, 1, 1, 1, 1, 1, 1, 1, 1, 0] bm)
    (fun a w => ∃ v26 : Value, T4 n₀ w0 [(v26, 2, (firstR many).length, cells2 (firstR many)), (v19, 2, (anewR l8).length, cells2 (anewR l8)), (v17, 2, (fixR many l7).length, cells2 (fixR many l7)), (v15, 2, (firstR many).length, cells2 (firstR many)), (s7, 1, l7.length, l7.map (.int .i64)), (s8, 1, l8.length, l8.map (.int .i64))] [(26, v26), (27, .int .i64 (roundsR many)), (25, .int .i64 (manyF many)), (23, .int .i64 (earlF many a1 a2)), (24, .int .i64 (earlE many a1 a2)), (21, .int .i64 (roundsR many)), (22, .int .i64 (manyF many)), (19, v19), (20, .int .i64 (anewE l8)), (17, v17), (18, .int .i64 (fixE many l7)), (15, v15), (16, .int .i64 (manyF many)), (4, .int .i64 many), (5, .int .i64 a1), (6, .int .i64 a2), (7, s7), (8, s8)] a w) := by
  rintro Q J K hJ hK a w ⟨hb, hz, ⟨r0, r1, r2, r3, r4, _⟩, ⟨f, rfl, q27, q26, q25, q23, q24, q21, q22, q19, q20, q17, q18, q15, q16, q4, q5, q6, q7, q8, _⟩⟩
  rw [frame242, show f 27 = .int .i64 0 from q27, show f 26 = .slice none 0 0 from q26, show f 25 = .int .i64 (manyF many) from q25, show f 23 = .int .i64 (earlF many a1 a2) from q23, show f 24 = .int .i64 (earlE many a1 a2) from q24, show f 21 = .int .i64 (roundsR many) from q21, show f 22 = .int .i64 (manyF many) from q22, show f 19 = v19 from q19, show f 20 = .int .i64 (anewE l8) from q20, show f 17 = v17 from q17, show f 18 = .int .i64 (fixE many l7) from q18, show f 15 = v15 from q15, show f 16 = .int .i64 (manyF many) from q16, show f 4 = .int .i64 many from q4, show f 5 = .int .i64 a1 from q5, show f 6 = .int .i64 a2 from q6, show f 7 = s7 from q7, show f 8 = s8 from q8]
  clear q27 q26 q25 q23 q24 q21 q22 q19 q20 q17 q18 q15 q16 q4 q5 q6 q7 q8
  conv => arg 2; whnf
  obtain ⟨p7, c7, rfl⟩ := row_slice r3
  obtain ⟨p8, c8, rfl⟩ := row_slice r4
  cases h : outB many 2 20
  · have h2 := outB_false h
    have hM := manyF_ok h
    have hR := Lib.hid (show roundsR many = roundsF many by simp [roundsR, hM])
    have hF := Lib.hid (show gms many (bracketL many) ((bracketL many).length / 2) = firstR many by simp [firstR, h])
    clear h
    rw [hM]
    have hz0 := hz
    go_wp2_with first
      | (go_at_call 9; refine (firstGames_any many _ h2.1 h2.2).mono ?_; rintro e w1 ⟨v, rfl, hown, hbel⟩; replace r0 := r0.below hbel; replace r1 := r1.below hbel; replace r2 := r2.below hbel; replace r3 := r3.below hbel; replace r4 := r4.below hbel; replace hz := Nat.lt_of_lt_of_le hz hbel.size; replace hb := hb.trans (hbel.mono (Nat.le_trans (Nat.le_of_lt hz0) (Nat.le_refl _))); replace hz0 := hz; have nr0 := (Row.of_owns hown).mono (Nat.zero_le _); clear hbel)
      | (go_at_call 18; refine (rounds_ref many _ h2.1 h2.2).mono ?_; rintro e w1 ⟨rfl, hbel⟩; replace r0 := r0.below hbel; replace r1 := r1.below hbel; replace r2 := r2.below hbel; replace r3 := r3.below hbel; replace r4 := r4.below hbel; replace hz := Nat.lt_of_lt_of_le hz hbel.size; replace hb := hb.trans (hbel.mono (Nat.le_trans (Nat.le_of_lt hz0) (Nat.le_refl _))); replace hz0 := hz; replace nr0 := nr0.below hbel)
    refine Met.intro (hJ _ _ ?_)
    rw [hF.out] at nr0
    exact ⟨_, hb, hz, ⟨row2 (by rw [← hF.out, gms_length]; omega) nr0, r0, r1, r2, r3, r4, trivial⟩, Fr.of _ rfl ⟨rfl, by rw [hR.out]; rfl, by rw [hM]; rfl, rfl, rfl, rfl, by rw [hM]; rfl, rfl, rfl, rfl, rfl, rfl, by rw [hM]; rfl, rfl, rfl, rfl, rfl, rfl, trivial⟩⟩
  · have hM := manyF_bad h
    have hR := Lib.hid (show roundsR many = 0 by simp [roundsR, hM])
    have hF := Lib.hid (show firstR many = [] by simp [firstR, h])
    clear h
    rw [hM]
    go_wp2
    refine Met.intro (hJ _ _ ?_)
    exact ⟨_, hb, hz, ⟨by rw [hF.out]; exact ⟨rfl, .inl ⟨rfl, rfl⟩⟩, r0, r1, r2, r3, r4, trivial⟩, Fr.of _ rfl ⟨rfl, by rw [hR.out]; rfl, by rw [hM]; rfl, rfl, rfl, rfl, by rw [hM]; rfl, rfl, rfl, rfl, rfl, rfl, by rw [hM]; rfl, rfl, rfl, rfl, rfl, rfl, trivial⟩⟩

set_option maxRecDepth 100000 in
set_option maxHeartbeats 1000000 in
theorem bt42 (n₀ : Nat) (w0 : World) (many a1 a2 : Int) (s7 : Value) (l7 : List Int) (s8 : Value) (l8 : List Int) (h7 : l7.length ≤ 50) (h8 : l8.length ≤ 50) (v15 : Value) (v17 : Value) (v19 : Value) (v26 : Value) : Tri Try.prog (T4 n₀ w0 [(v26, 2, (firstR many).length, cells2 (firstR many)), (v19, 2, (anewR l8).length, cells2 (anewR l8)), (v17, 2, (fixR many l7).length, cells2 (fixR many l7)), (v15, 2, (firstR many).length, cells2 (firstR many)), (s7, 1, l7.length, l7.map (.int .i64)), (s8, 1, l8.length, l8.map (.int .i64))] [(26, v26), (27, .int .i64 (roundsR many)), (25, .int .i64 (manyF many)), (23, .int .i64 (earlF many a1 a2)), (24, .int .i64 (earlE many a1 a2)), (21, .int .i64 (roundsR many)), (22, .int .i64 (manyF many)), (19, v19), (20, .int .i64 (anewE l8)), (17, v17), (18, .int .i64 (fixE many l7)), (15, v15), (16, .int .i64 (manyF many)), (4, .int .i64 many), (5, .int .i64 a1), (6, .int .i64 a2), (7, s7), (8, s8)]) (sel [1, 1, 1, 1, 1, 1, 1, 1, 1, 1, 1, 1, 1, 1, 1, 1, 1, 1, 0] bm)
    (fun a w => ∃ v28 : Value, T4 n₀ w0 [(v28, 2, (fixR many l7).length, cells2 (fixR many l7)), (v26, 2, (firstR many).length, cells2 (firstR many)), (v19, 2, (anewR l8).length, cells2 (anewR l8)), (v17, 2, (fixR many l7).length, cells2 (fixR many l7)), (v15, 2, (firstR many).length, cells2 (firstR many)), (s7, 1, l7.length, l7.map (.int .i64)), (s8, 1, l8.length, l8.map (.int .i64))] [(28, v28), (29, .int .i64 (fixE many l7)), (26, v26), (27, .int .i64 (roundsR many)), (25, .int .i64 (manyF many)), (23, .int .i64 (earlF many a1 a2)), (24, .int .i64 (earlE many a1 a2)), (21, .int .i64 (roundsR many)), (22, .int .i64 (manyF many)), (19, v19), (20, .int .i64 (anewE l8)), (17, v17), (18, .int .i64 (fixE many l7)), (15, v15), (16, .int .i64 (manyF many)), (4, .int .i64 many), (5, .int .i64 a1), (6, .int .i64 a2), (7, s7), (8, s8)] a w) := by
  rintro Q J K hJ hK a w ⟨hb, hz, ⟨r0, r1, r2, r3, r4, r5, _⟩, ⟨f, rfl, q26, q27, q25, q23, q24, q21, q22, q19, q20, q17, q18, q15, q16, q4, q5, q6, q7, q8, _⟩⟩
  rw [frame242, show f 26 = v26 from q26, show f 27 = .int .i64 (roundsR many) from q27, show f 25 = .int .i64 (manyF many) from q25, show f 23 = .int .i64 (earlF many a1 a2) from q23, show f 24 = .int .i64 (earlE many a1 a2) from q24, show f 21 = .int .i64 (roundsR many) from q21, show f 22 = .int .i64 (manyF many) from q22, show f 19 = v19 from q19, show f 20 = .int .i64 (anewE l8) from q20, show f 17 = v17 from q17, show f 18 = .int .i64 (fixE many l7) from q18, show f 15 = v15 from q15, show f 16 = .int .i64 (manyF many) from q16, show f 4 = .int .i64 many from q4, show f 5 = .int .i64 a1 from q5, show f 6 = .int .i64 a2 from q6, show f 7 = s7 from q7, show f 8 = s8 from q8]
  clear q26 q27 q25 q23 q24 q21 q22 q19 q20 q17 q18 q15 q16 q4 q5 q6 q7 q8
  conv => arg 2; whnf
  obtain ⟨p7, c7, rfl⟩ := row_slice r4
  obtain ⟨p8, c8, rfl⟩ := row_slice r5
  have hz0 := hz
  go_wp2_with (go_at_call 19; refine (fixed_ref many _ l7.length l7 0 _ (by omega) r4).mono ?_; rintro e w1 ⟨v, rfl, hown, hbel⟩; replace r0 := r0.below hbel; replace r1 := r1.below hbel; replace r2 := r2.below hbel; replace r3 := r3.below hbel; replace r4 := r4.below hbel; replace r5 := r5.below hbel; replace hz := Nat.lt_of_lt_of_le hz hbel.size; replace hb := hb.trans (hbel.mono (Nat.le_trans (Nat.le_of_lt hz0) (Nat.le_refl _))); replace hz0 := hz; have nr0 := (Row.of_owns hown).mono (Nat.zero_le _))
  refine Met.intro (hJ _ _ ?_)
  exact ⟨_, hb, hz, ⟨nr0, r0, r1, r2, r3, r4, r5, trivial⟩, Fr.of _ rfl ⟨rfl, rfl, rfl, rfl, rfl, rfl, rfl, rfl, rfl, rfl, rfl, rfl, rfl, rfl, rfl, rfl, rfl, rfl, rfl, rfl, trivial⟩⟩

set_option maxRecDepth 100000 in
set_option maxHeartbeats 1000000 in
theorem bt43 (n₀ : Nat) (w0 : World) (many a1 a2 : Int) (s7 : Value) (l7 : List Int) (s8 : Value) (l8 : List Int) (h7 : l7.length ≤ 50) (h8 : l8.length ≤ 50) (v15 : Value) (v17 : Value) (v19 : Value) (v26 : Value) (v28 : Value) : Tri Try.prog (T4 n₀ w0 [(v28, 2, (fixR many l7).length, cells2 (fixR many l7)), (v26, 2, (firstR many).length, cells2 (firstR many)), (v19, 2, (anewR l8).length, cells2 (anewR l8)), (v17, 2, (fixR many l7).length, cells2 (fixR many l7)), (v15, 2, (firstR many).length, cells2 (firstR many)), (s7, 1, l7.length, l7.map (.int .i64)), (s8, 1, l8.length, l8.map (.int .i64))] [(28, v28), (29, .int .i64 (fixE many l7)), (26, v26), (27, .int .i64 (roundsR many)), (25, .int .i64 (manyF many)), (23, .int .i64 (earlF many a1 a2)), (24, .int .i64 (earlE many a1 a2)), (21, .int .i64 (roundsR many)), (22, .int .i64 (manyF many)), (19, v19), (20, .int .i64 (anewE l8)), (17, v17), (18, .int .i64 (fixE many l7)), (15, v15), (16, .int .i64 (manyF many)), (4, .int .i64 many), (5, .int .i64 a1), (6, .int .i64 a2), (7, s7), (8, s8)]) (sel [1, 1, 1, 1, 1, 1, 1, 1, 1, 1, 1, 1, 1, 1, 1, 1, 1, 1, 1, 0] bm)
    (fun a w => ∃ v30 : Value, T4 n₀ w0 [(v30, 2, (anewR l8).length, cells2 (anewR l8)), (v28, 2, (fixR many l7).length, cells2 (fixR many l7)), (v26, 2, (firstR many).length, cells2 (firstR many)), (v19, 2, (anewR l8).length, cells2 (anewR l8)), (v17, 2, (fixR many l7).length, cells2 (fixR many l7)), (v15, 2, (firstR many).length, cells2 (firstR many)), (s7, 1, l7.length, l7.map (.int .i64)), (s8, 1, l8.length, l8.map (.int .i64))] [(30, v30), (31, .int .i64 (anewE l8)), (28, v28), (29, .int .i64 (fixE many l7)), (26, v26), (27, .int .i64 (roundsR many)), (25, .int .i64 (manyF many)), (23, .int .i64 (earlF many a1 a2)), (24, .int .i64 (earlE many a1 a2)), (21, .int .i64 (roundsR many)), (22, .int .i64 (manyF many)), (19, v19), (20, .int .i64 (anewE l8)), (17, v17), (18, .int .i64 (fixE many l7)), (15, v15), (16, .int .i64 (manyF many)), (4, .int .i64 many), (5, .int .i64 a1), (6, .int .i64 a2), (7, s7), (8, s8)] a w) := by
  rintro Q J K hJ hK a w ⟨hb, hz, ⟨r0, r1, r2, r3, r4, r5, r6, _⟩, ⟨f, rfl, q28, q29, q26, q27, q25, q23, q24, q21, q22, q19, q20, q17, q18, q15, q16, q4, q5, q6, q7, q8, _⟩⟩
  rw [frame242, show f 28 = v28 from q28, show f 29 = .int .i64 (fixE many l7) from q29, show f 26 = v26 from q26, show f 27 = .int .i64 (roundsR many) from q27, show f 25 = .int .i64 (manyF many) from q25, show f 23 = .int .i64 (earlF many a1 a2) from q23, show f 24 = .int .i64 (earlE many a1 a2) from q24, show f 21 = .int .i64 (roundsR many) from q21, show f 22 = .int .i64 (manyF many) from q22, show f 19 = v19 from q19, show f 20 = .int .i64 (anewE l8) from q20, show f 17 = v17 from q17, show f 18 = .int .i64 (fixE many l7) from q18, show f 15 = v15 from q15, show f 16 = .int .i64 (manyF many) from q16, show f 4 = .int .i64 many from q4, show f 5 = .int .i64 a1 from q5, show f 6 = .int .i64 a2 from q6, show f 7 = s7 from q7, show f 8 = s8 from q8]
  clear q28 q29 q26 q27 q25 q23 q24 q21 q22 q19 q20 q17 q18 q15 q16 q4 q5 q6 q7 q8
  conv => arg 2; whnf
  obtain ⟨p7, c7, rfl⟩ := row_slice r5
  obtain ⟨p8, c8, rfl⟩ := row_slice r6
  have hz0 := hz
  go_wp2_with (go_at_call 20; refine (anew_ref _ l8.length l8 0 _ (by omega) r6).mono ?_; rintro e w1 ⟨v, rfl, hown, hbel⟩; replace r0 := r0.below hbel; replace r1 := r1.below hbel; replace r2 := r2.below hbel; replace r3 := r3.below hbel; replace r4 := r4.below hbel; replace r5 := r5.below hbel; replace r6 := r6.below hbel; replace hz := Nat.lt_of_lt_of_le hz hbel.size; replace hb := hb.trans (hbel.mono (Nat.le_trans (Nat.le_of_lt hz0) (Nat.le_refl _))); replace hz0 := hz; have nr0 := (Row.of_owns hown).mono (Nat.zero_le _))
  refine Met.intro (hJ _ _ ?_)
  exact ⟨_, hb, hz, ⟨nr0, r0, r1, r2, r3, r4, r5, r6, trivial⟩, Fr.of _ rfl ⟨rfl, rfl, rfl, rfl, rfl, rfl, rfl, rfl, rfl, rfl, rfl, rfl, rfl, rfl, rfl, rfl, rfl, rfl, rfl, rfl, rfl, rfl, trivial⟩⟩

set_option maxRecDepth 100000 in
set_option maxHeartbeats 1000000 in
theorem bt44 (n₀ : Nat) (w0 : World) (many a1 a2 : Int) (s7 : Value) (l7 : List Int) (s8 : Value) (l8 : List Int) (h7 : l7.length ≤ 50) (h8 : l8.length ≤ 50) (v15 : Value) (v17 : Value) (v19 : Value) (v26 : Value) (v28 : Value) (v30 : Value) : Tri Try.prog (T4 n₀ w0 [(v30, 2, (anewR l8).length, cells2 (anewR l8)), (v28, 2, (fixR many l7).length, cells2 (fixR many l7)), (v26, 2, (firstR many).length, cells2 (firstR many)), (v19, 2, (anewR l8).length, cells2 (anewR l8)), (v17, 2, (fixR many l7).length, cells2 (fixR many l7)), (v15, 2, (firstR many).length, cells2 (firstR many)), (s7, 1, l7.length, l7.map (.int .i64)), (s8, 1, l8.length, l8.map (.int .i64))] [(30, v30), (31, .int .i64 (anewE l8)), (28, v28), (29, .int .i64 (fixE many l7)), (26, v26), (27, .int .i64 (roundsR many)), (25, .int .i64 (manyF many)), (23, .int .i64 (earlF many a1 a2)), (24, .int .i64 (earlE many a1 a2)), (21, .int .i64 (roundsR many)), (22, .int .i64 (manyF many)), (19, v19), (20, .int .i64 (anewE l8)), (17, v17), (18, .int .i64 (fixE many l7)), (15, v15), (16, .int .i64 (manyF many)), (4, .int .i64 many), (5, .int .i64 a1), (6, .int .i64 a2), (7, s7), (8, s8)]) (sel [1, 1, 1, 1, 1, 1, 1, 1, 1, 1, 1, 1, 1, 1, 1, 1, 1, 1, 1, 1, 0] bm)
    (fun a w => T4 n₀ w0 [(v30, 2, (anewR l8).length, cells2 (anewR l8)), (v28, 2, (fixR many l7).length, cells2 (fixR many l7)), (v26, 2, (firstR many).length, cells2 (firstR many)), (v19, 2, (anewR l8).length, cells2 (anewR l8)), (v17, 2, (fixR many l7).length, cells2 (fixR many l7)), (v15, 2, (firstR many).length, cells2 (firstR many)), (s7, 1, l7.length, l7.map (.int .i64)), (s8, 1, l8.length, l8.map (.int .i64))] [(32, .int .i64 (earlF many a1 a2)), (33, .int .i64 (earlE many a1 a2)), (30, v30), (31, .int .i64 (anewE l8)), (28, v28), (29, .int .i64 (fixE many l7)), (26, v26), (27, .int .i64 (roundsR many)), (25, .int .i64 (manyF many)), (23, .int .i64 (earlF many a1 a2)), (24, .int .i64 (earlE many a1 a2)), (21, .int .i64 (roundsR many)), (22, .int .i64 (manyF many)), (19, v19), (20, .int .i64 (anewE l8)), (17, v17), (18, .int .i64 (fixE many l7)), (15, v15), (16, .int .i64 (manyF many)), (4, .int .i64 many), (5, .int .i64 a1), (6, .int .i64 a2), (7, s7), (8, s8)] a w) := by
  rintro Q J K hJ hK a w ⟨hb, hz, ⟨r0, r1, r2, r3, r4, r5, r6, r7, _⟩, ⟨f, rfl, q30, q31, q28, q29, q26, q27, q25, q23, q24, q21, q22, q19, q20, q17, q18, q15, q16, q4, q5, q6, q7, q8, _⟩⟩
  rw [frame242, show f 30 = v30 from q30, show f 31 = .int .i64 (anewE l8) from q31, show f 28 = v28 from q28, show f 29 = .int .i64 (fixE many l7) from q29, show f 26 = v26 from q26, show f 27 = .int .i64 (roundsR many) from q27, show f 25 = .int .i64 (manyF many) from q25, show f 23 = .int .i64 (earlF many a1 a2) from q23, show f 24 = .int .i64 (earlE many a1 a2) from q24, show f 21 = .int .i64 (roundsR many) from q21, show f 22 = .int .i64 (manyF many) from q22, show f 19 = v19 from q19, show f 20 = .int .i64 (anewE l8) from q20, show f 17 = v17 from q17, show f 18 = .int .i64 (fixE many l7) from q18, show f 15 = v15 from q15, show f 16 = .int .i64 (manyF many) from q16, show f 4 = .int .i64 many from q4, show f 5 = .int .i64 a1 from q5, show f 6 = .int .i64 a2 from q6, show f 7 = s7 from q7, show f 8 = s8 from q8]
  clear q30 q31 q28 q29 q26 q27 q25 q23 q24 q21 q22 q19 q20 q17 q18 q15 q16 q4 q5 q6 q7 q8
  conv => arg 2; whnf
  obtain ⟨p7, c7, rfl⟩ := row_slice r6
  obtain ⟨p8, c8, rfl⟩ := row_slice r7
  have hz0 := hz
  go_wp2_with (go_at_call 21; refine (earliest_ref many a1 a2 _).mono ?_; rintro e w1 ⟨rfl, hbel⟩; replace r0 := r0.below hbel; replace r1 := r1.below hbel; replace r2 := r2.below hbel; replace r3 := r3.below hbel; replace r4 := r4.below hbel; replace r5 := r5.below hbel; replace r6 := r6.below hbel; replace r7 := r7.below hbel; replace hz := Nat.lt_of_lt_of_le hz hbel.size; replace hb := hb.trans (hbel.mono (Nat.le_trans (Nat.le_of_lt hz0) (Nat.le_refl _))); replace hz0 := hz)
  refine Met.intro (hJ _ _ ?_)
  exact ⟨hb, hz, ⟨r0, r1, r2, r3, r4, r5, r6, r7, trivial⟩, Fr.of _ rfl ⟨rfl, rfl, rfl, rfl, rfl, rfl, rfl, rfl, rfl, rfl, rfl, rfl, rfl, rfl, rfl, rfl, rfl, rfl, rfl, rfl, rfl, rfl, rfl, rfl, trivial⟩⟩

end Go.Proofs.Ytkcjklgbadekjaa
