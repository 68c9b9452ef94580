/-
  The law BracketsMade: what the program answers. No condition.
-/
import Derived.Test.YtkcjklgbadekjaaBLe
import Derived.Test.YtkcjklgbadekjaaAnewR
import Derived.Test.YtkcjklgbadekjaaFixedR
import Derived.Test.YtkcjklgbadekjaaEarly2
namespace Go.Proofs.Ytkcjklgbadekjaa
open Go.RowKit Go.Bw

def roundsR (many : Int) : Int := if manyF many = 0 then roundsF many else 0
theorem Rounds_any (many : Int) (w : World) : Calls Try.prog 16 #[.int .i64 many] w fun e w' => e = .returned (.tuple #[.int .i64 (roundsR many), .int .i64 (manyF many)]) ∧ w = w' := Rounds_prog many w

def AllR (w : World) : List (Value × Nat × Nat × List Value) → Prop
  | [] => True
  | (v, sz, n, cs) :: l => Row w 0 sz v n cs ∧ AllR w l

/-- Rows that are read, and slots. -/
def T4 (n₀ : Nat) (w0 : World) (rows : List (Value × Nat × Nat × List Value)) (ex : List (Nat × Value)) (a : Act) (w : World) : Prop :=
  Below n₀ w0 w ∧ n₀ < w.heap.size ∧ AllR w rows ∧ Fr 242 ex a

theorem row_slice {w : World} {base sz n : Nat} {v : Value} {cs : List Value} (h : Row w base sz v n cs) : ∃ a c, v = .slice a n c := by
  rcases h.2 with ⟨rfl, rfl⟩ | ⟨b, off, cap, rfl, _⟩
  · exact ⟨_, _, rfl⟩
  · exact ⟨_, _, rfl⟩

theorem row2 {w : World} {base sz n n' : Nat} {v : Value} {cs : List Value} (e : n = n') (h : Row w base sz v n cs) : Row w base sz v n' cs := e ▸ h

set_option maxRecDepth 100000 in
set_option maxHeartbeats 1000000 in
theorem bt32 (n₀ : Nat) (w0 : World) (many a1 a2 : Int) (s7 : Value) (l7 : List Int) (s8 : Value) (l8 : List Int) (h7 : l7.length ≤ 50) (h8 : l8.length ≤ 50) : Tri Try.prog (T4 n₀ w0 [(s7, 1, l7.length, l7.map (.int .i64)), (s8, 1, l8.length, l8.map (.int .i64))] [(4, .int .i64 many), (5, .int .i64 a1), (6, .int .i64 a2), (7, s7), (8, s8)]) (sel [1, 1, 1, 1, 1, 1, 1, 1, 1, 0] bm)
    (fun a w => ∃ v15 : Value, T4 n₀ w0 [(v15, 2, (firstR many).length, cells2 (firstR many)), (s7, 1, l7.length, l7.map (.int .i64)), (s8, 1, l8.length, l8.map (.int .i64))] [(15, v15), (16, .int .i64 (manyF many)), (4, .int .i64 many), (5, .int .i64 a1), (6, .int .i64 a2), (7, s7), (8, s8)] a w) := by
  rintro Q J K hJ hK a w ⟨hb, hz, ⟨r0, r1, _⟩, ⟨f, rfl, q4, q5, q6, q7, q8, _⟩⟩
  rw [frame242, show f 4 = .int .i64 many from q4, show f 5 = .int .i64 a1 from q5, show f 6 = .int .i64 a2 from q6, show f 7 = s7 from q7, show f 8 = s8 from q8]
  clear q4 q5 q6 q7 q8
  conv => arg 2; whnf
  obtain ⟨p7, c7, rfl⟩ := row_slice r0
  obtain ⟨p8, c8, rfl⟩ := row_slice r1
  have hz0 := hz
  go_wp2_with (go_at_call 13; refine (first_prog many _).mono ?_; rintro e w1 ⟨v, rfl, hown, hbel⟩; replace r0 := r0.below hbel; replace r1 := r1.below hbel; replace hz := Nat.lt_of_lt_of_le hz hbel.size; replace hb := hb.trans (hbel.mono (Nat.le_trans (Nat.le_of_lt hz0) (Nat.le_refl _))); replace hz0 := hz; have nr0 := (Row.of_owns hown).mono (Nat.zero_le _))
  refine Met.intro (hJ _ _ ?_)
  exact ⟨_, hb, hz, ⟨nr0, r0, r1, trivial⟩, Fr.of _ rfl ⟨rfl, rfl, rfl, rfl, rfl, rfl, rfl, trivial⟩⟩

set_option maxRecDepth 100000 in
set_option maxHeartbeats 1000000 in
theorem bt33 (n₀ : Nat) (w0 : World) (many a1 a2 : Int) (s7 : Value) (l7 : List Int) (s8 : Value) (l8 : List Int) (h7 : l7.length ≤ 50) (h8 : l8.length ≤ 50) (v15 : Value) : Tri Try.prog (T4 n₀ w0 [(v15, 2, (firstR many).length, cells2 (firstR many)), (s7, 1, l7.length, l7.map (.int .i64)), (s8, 1, l8.length, l8.map (.int .i64))] [(15, v15), (16, .int .i64 (manyF many)), (4, .int .i64 many), (5, .int .i64 a1), (6, .int .i64 a2), (7, s7), (8, s8)]) (sel [1, 1, 1, 1, 1, 1, 1, 1, 1, 1, 0] bm)
    (fun a w => ∃ v17 : Value, T4 n₀ w0 [(v17, 2, (fixR many l7).length, cells2 (fixR many l7)), (v15, 2, (firstR many).length, cells2 (firstR many)), (s7, 1, l7.length, l7.map (.int .i64)), (s8, 1, l8.length, l8.map (.int .i64))] [(17, v17), (18, .int .i64 (fixE many l7)), (15, v15), (16, .int .i64 (manyF many)), (4, .int .i64 many), (5, .int .i64 a1), (6, .int .i64 a2), (7, s7), (8, s8)] a w) := by
  rintro Q J K hJ hK a w ⟨hb, hz, ⟨r0, r1, r2, _⟩, ⟨f, rfl, q15, q16, q4, q5, q6, q7, q8, _⟩⟩
  rw [frame242, show f 15 = v15 from q15, show f 16 = .int .i64 (manyF many) from q16, show f 4 = .int .i64 many from q4, show f 5 = .int .i64 a1 from q5, show f 6 = .int .i64 a2 from q6, show f 7 = s7 from q7, show f 8 = s8 from q8]
  clear q15 q16 q4 q5 q6 q7 q8
  conv => arg 2; whnf
  obtain ⟨p7, c7, rfl⟩ := row_slice r1
  obtain ⟨p8, c8, rfl⟩ := row_slice r2
  have hz0 := hz
  go_wp2_with (go_at_call 14; refine (fixed_prog many _ l7.length l7 0 _ (by omega) r1).mono ?_; rintro e w1 ⟨v, rfl, hown, hbel⟩; replace r0 := r0.below hbel; replace r1 := r1.below hbel; replace r2 := r2.below hbel; replace hz := Nat.lt_of_lt_of_le hz hbel.size; replace hb := hb.trans (hbel.mono (Nat.le_trans (Nat.le_of_lt hz0) (Nat.le_refl _))); replace hz0 := hz; have nr0 := (Row.of_owns hown).mono (Nat.zero_le _))
  refine Met.intro (hJ _ _ ?_)
  exact ⟨_, hb, hz, ⟨nr0, r0, r1, r2, trivial⟩, Fr.of _ rfl ⟨rfl, rfl, rfl, rfl, rfl, rfl, rfl, rfl, rfl, trivial⟩⟩

set_option maxRecDepth 100000 in
set_option maxHeartbeats 1000000 in
theorem bt34 (n₀ : Nat) (w0 : World) (many a1 a2 : Int) (s7 : Value) (l7 : List Int) (s8 : Value) (l8 : List Int) (h7 : l7.length ≤ 50) (h8 : l8.length ≤ 50) (v15 : Value) (v17 : Value) : Tri Try.prog (T4 n₀ w0 [(v17, 2, (fixR many l7).length, cells2 (fixR many l7)), (v15, 2, (firstR many).length, cells2 (firstR many)), (s7, 1, l7.length, l7.map (.int .i64)), (s8, 1, l8.length, l8.map (.int .i64))] [(17, v17), (18, .int .i64 (fixE many l7)), (15, v15), (16, .int .i64 (manyF many)), (4, .int .i64 many), (5, .int .i64 a1), (6, .int .i64 a2), (7, s7), (8, s8)]) (sel [1, 1, 1, 1, 1, 1, 1, 1, 1, 1, 1, 0] bm)
    (fun a w => ∃ v19 : Value, T4 n₀ w0 [(v19, 2, (anewR l8).length, cells2 (anewR l8)), (v17, 2, (fixR many l7).length, cells2 (fixR many l7)), (v15, 2, (firstR many).length, cells2 (firstR many)), (s7, 1, l7.length, l7.map (.int .i64)), (s8, 1, l8.length, l8.map (.int .i64))] [(19, v19), (20, .int .i64 (anewE l8)), (17, v17), (18, .int .i64 (fixE many l7)), (15, v15), (16, .int .i64 (manyF many)), (4, .int .i64 many), (5, .int .i64 a1), (6, .int .i64 a2), (7, s7), (8, s8)] a w) := by
  rintro Q J K hJ hK a w ⟨hb, hz, ⟨r0, r1, r2, r3, _⟩, ⟨f, rfl, q17, q18, q15, q16, q4, q5, q6, q7, q8, _⟩⟩
  rw [frame242, show f 17 = v17 from q17, show f 18 = .int .i64 (fixE many l7) from q18, show f 15 = v15 from q15, show f 16 = .int .i64 (manyF many) from q16, show f 4 = .int .i64 many from q4, show f 5 = .int .i64 a1 from q5, show f 6 = .int .i64 a2 from q6, show f 7 = s7 from q7, show f 8 = s8 from q8]
  clear q17 q18 q15 q16 q4 q5 q6 q7 q8
  conv => arg 2; whnf
  obtain ⟨p7, c7, rfl⟩ := row_slice r2
  obtain ⟨p8, c8, rfl⟩ := row_slice r3
  have hz0 := hz
  go_wp2_with (go_at_call 15; refine (anew_prog _ l8.length l8 0 _ (by omega) r3).mono ?_; rintro e w1 ⟨v, rfl, hown, hbel⟩; replace r0 := r0.below hbel; replace r1 := r1.below hbel; replace r2 := r2.below hbel; replace r3 := r3.below hbel; replace hz := Nat.lt_of_lt_of_le hz hbel.size; replace hb := hb.trans (hbel.mono (Nat.le_trans (Nat.le_of_lt hz0) (Nat.le_refl _))); replace hz0 := hz; have nr0 := (Row.of_owns hown).mono (Nat.zero_le _))
  refine Met.intro (hJ _ _ ?_)
  exact ⟨_, hb, hz, ⟨nr0, r0, r1, r2, r3, trivial⟩, Fr.of _ rfl ⟨rfl, rfl, rfl, rfl, rfl, rfl, rfl, rfl, rfl, rfl, rfl, trivial⟩⟩

set_option maxRecDepth 100000 in
set_option maxHeartbeats 1000000 in
theorem bt35 (n₀ : Nat) (w0 : World) (many a1 a2 : Int) (s7 : Value) (l7 : List Int) (s8 : Value) (l8 : List Int) (h7 : l7.length ≤ 50) (h8 : l8.length ≤ 50) (v15 : Value) (v17 : Value) (v19 : Value) : Tri Try.prog (T4 n₀ w0 [(v19, 2, (anewR l8).length, cells2 (anewR l8)), (v17, 2, (fixR many l7).length, cells2 (fixR many l7)), (v15, 2, (firstR many).length, cells2 (firstR many)), (s7, 1, l7.length, l7.map (.int .i64)), (s8, 1, l8.length, l8.map (.int .i64))] [(19, v19), (20, .int .i64 (anewE l8)), (17, v17), (18, .int .i64 (fixE many l7)), (15, v15), (16, .int .i64 (manyF many)), (4, .int .i64 many), (5, .int .i64 a1), (6, .int .i64 a2), (7, s7), (8, s8)]) (sel [1, 1, 1, 1, 1, 1, 1, 1, 1, 1, 1, 1, 0] bm)
    (fun a w => T4 n₀ w0 [(v19, 2, (anewR l8).length, cells2 (anewR l8)), (v17, 2, (fixR many l7).length, cells2 (fixR many l7)), (v15, 2, (firstR many).length, cells2 (firstR many)), (s7, 1, l7.length, l7.map (.int .i64)), (s8, 1, l8.length, l8.map (.int .i64))] [(21, .int .i64 (roundsR many)), (22, .int .i64 (manyF many)), (19, v19), (20, .int .i64 (anewE l8)), (17, v17), (18, .int .i64 (fixE many l7)), (15, v15), (16, .int .i64 (manyF many)), (4, .int .i64 many), (5, .int .i64 a1), (6, .int .i64 a2), (7, s7), (8, s8)] a w) := by
  rintro Q J K hJ hK a w ⟨hb, hz, ⟨r0, r1, r2, r3, r4, _⟩, ⟨f, rfl, q19, q20, q17, q18, q15, q16, q4, q5, q6, q7, q8, _⟩⟩
  rw [frame242, show f 19 = v19 from q19, show f 20 = .int .i64 (anewE l8) from q20, show f 17 = v17 from q17, show f 18 = .int .i64 (fixE many l7) from q18, show f 15 = v15 from q15, show f 16 = .int .i64 (manyF many) from q16, show f 4 = .int .i64 many from q4, show f 5 = .int .i64 a1 from q5, show f 6 = .int .i64 a2 from q6, show f 7 = s7 from q7, show f 8 = s8 from q8]
  clear q19 q20 q17 q18 q15 q16 q4 q5 q6 q7 q8
  conv => arg 2; whnf
  obtain ⟨p7, c7, rfl⟩ := row_slice r3
  obtain ⟨p8, c8, rfl⟩ := row_slice r4
  go_wp2_with (go_at_call 16; refine (Rounds_any many _).mono ?_; rintro e w1 ⟨rfl, rfl⟩)
  refine Met.intro (hJ _ _ ?_)
  exact ⟨hb, hz, ⟨r0, r1, r2, r3, r4, trivial⟩, Fr.of _ rfl ⟨rfl, rfl, rfl, rfl, rfl, rfl, rfl, rfl, rfl, rfl, rfl, rfl, rfl, trivial⟩⟩

set_option maxRecDepth 100000 in
set_option maxHeartbeats 1000000 in
theorem bt36 (n₀ : Nat) (w0 : World) (many a1 a2 : Int) (s7 : Value) (l7 : List Int) (s8 : Value) (l8 : List Int) (h7 : l7.length ≤ 50) (h8 : l8.length ≤ 50) (v15 : Value) (v17 : Value) (v19 : Value) : Tri Try.prog (T4 n₀ w0 [(v19, 2, (anewR l8).length, cells2 (anewR l8)), (v17, 2, (fixR many l7).length, cells2 (fixR many l7)), (v15, 2, (firstR many).length, cells2 (firstR many)), (s7, 1, l7.length, l7.map (.int .i64)), (s8, 1, l8.length, l8.map (.int .i64))] [(21, .int .i64 (roundsR many)), (22, .int .i64 (manyF many)), (19, v19), (20, .int .i64 (anewE l8)), (17, v17), (18, .int .i64 (fixE many l7)), (15, v15), (16, .int .i64 (manyF many)), (4, .int .i64 many), (5, .int .i64 a1), (6, .int .i64 a2), (7, s7), (8, s8)]) (sel [1, 1, 1, 1, 1, 1, 1, 1, 1, 1, 1, 1, 1, 0] bm)
    (fun a w => T4 n₀ w0 [(v19, 2, (anewR l8).length, cells2 (anewR l8)), (v17, 2, (fixR many l7).length, cells2 (fixR many l7)), (v15, 2, (firstR many).length, cells2 (firstR many)), (s7, 1, l7.length, l7.map (.int .i64)), (s8, 1, l8.length, l8.map (.int .i64))] [(23, .int .i64 (earlF many a1 a2)), (24, .int .i64 (earlE many a1 a2)), (21, .int .i64 (roundsR many)), (22, .int .i64 (manyF many)), (19, v19), (20, .int .i64 (anewE l8)), (17, v17), (18, .int .i64 (fixE many l7)), (15, v15), (16, .int .i64 (manyF many)), (4, .int .i64 many), (5, .int .i64 a1), (6, .int .i64 a2), (7, s7), (8, s8)] a w) := by
  rintro Q J K hJ hK a w ⟨hb, hz, ⟨r0, r1, r2, r3, r4, _⟩, ⟨f, rfl, q21, q22, q19, q20, q17, q18, q15, q16, q4, q5, q6, q7, q8, _⟩⟩
  rw [frame242, show f 21 = .int .i64 (roundsR many) from q21, show f 22 = .int .i64 (manyF many) from q22, show f 19 = v19 from q19, show f 20 = .int .i64 (anewE l8) from q20, show f 17 = v17 from q17, show f 18 = .int .i64 (fixE many l7) from q18, show f 15 = v15 from q15, show f 16 = .int .i64 (manyF many) from q16, show f 4 = .int .i64 many from q4, show f 5 = .int .i64 a1 from q5, show f 6 = .int .i64 a2 from q6, show f 7 = s7 from q7, show f 8 = s8 from q8]
  clear q21 q22 q19 q20 q17 q18 q15 q16 q4 q5 q6 q7 q8
  conv => arg 2; whnf
  obtain ⟨p7, c7, rfl⟩ := row_slice r3
  obtain ⟨p8, c8, rfl⟩ := row_slice r4
  have hz0 := hz
  go_wp2_with (go_at_call 17; refine (earliest_prog many a1 a2 _).mono ?_; rintro e w1 ⟨rfl, hbel⟩; replace r0 := r0.below hbel; replace r1 := r1.below hbel; replace r2 := r2.below hbel; replace r3 := r3.below hbel; replace r4 := r4.below hbel; replace hz := Nat.lt_of_lt_of_le hz hbel.size; replace hb := hb.trans (hbel.mono (Nat.le_trans (Nat.le_of_lt hz0) (Nat.le_refl _))); replace hz0 := hz)
  refine Met.intro (hJ _ _ ?_)
  exact ⟨hb, hz, ⟨r0, r1, r2, r3, r4, trivial⟩, Fr.of _ rfl ⟨rfl, rfl, rfl, rfl, rfl, rfl, rfl, rfl, rfl, rfl, rfl, rfl, rfl, rfl, rfl, trivial⟩⟩

set_option maxRecDepth 100000 in
set_option maxHeartbeats 1000000 in
theorem bt37 (n₀ : Nat) (w0 : World) (many a1 a2 : Int) (s7 : Value) (l7 : List Int) (s8 : Value) (l8 : List Int) (h7 : l7.length ≤ 50) (h8 : l8.length ≤ 50) (v15 : Value) (v17 : Value) (v19 : Value) : Tri Try.prog (T4 n₀ w0 [(v19, 2, (anewR l8).length, cells2 (anewR l8)), (v17, 2, (fixR many l7).length, cells2 (fixR many l7)), (v15, 2, (firstR many).length, cells2 (firstR many)), (s7, 1, l7.length, l7.map (.int .i64)), (s8, 1, l8.length, l8.map (.int .i64))] [(23, .int .i64 (earlF many a1 a2)), (24, .int .i64 (earlE many a1 a2)), (21, .int .i64 (roundsR many)), (22, .int .i64 (manyF many)), (19, v19), (20, .int .i64 (anewE l8)), (17, v17), (18, .int .i64 (fixE many l7)), (15, v15), (16, .int .i64 (manyF many)), (4, .int .i64 many), (5, .int .i64 a1), (6, .int .i64 a2), (7, s7), (8, s8)]) (sel [1, 1, 1, 1, 1, 1, 1, 1, 1, 1, 1, 1, 1, 1, 0] bm)
    (fun a w => T4 n₀ w0 [(v19, 2, (anewR l8).length, cells2 (anewR l8)), (v17, 2, (fixR many l7).length, cells2 (fixR many l7)), (v15, 2, (firstR many).length, cells2 (firstR many)), (s7, 1, l7.length, l7.map (.int .i64)), (s8, 1, l8.length, l8.map (.int .i64))] [(25, .int .i64 (manyF many)), (23, .int .i64 (earlF many a1 a2)), (24, .int .i64 (earlE many a1 a2)), (21, .int .i64 (roundsR many)), (22, .int .i64 (manyF many)), (19, v19), (20, .int .i64 (anewE l8)), (17, v17), (18, .int .i64 (fixE many l7)), (15, v15), (16, .int .i64 (manyF many)), (4, .int .i64 many), (5, .int .i64 a1), (6, .int .i64 a2), (7, s7), (8, s8)] a w) := by
  rintro Q J K hJ hK a w ⟨hb, hz, ⟨r0, r1, r2, r3, r4, _⟩, ⟨f, rfl, q23, q24, q21, q22, q19, q20, q17, q18, q15, q16, q4, q5, q6, q7, q8, _⟩⟩
  rw [frame242, show f 23 = .int .i64 (earlF many a1 a2) from q23, show f 24 = .int .i64 (earlE many a1 a2) from q24, show f 21 = .int .i64 (roundsR many) from q21, show f 22 = .int .i64 (manyF many) from q22, show f 19 = v19 from q19, show f 20 = .int .i64 (anewE l8) from q20, show f 17 = v17 from q17, show f 18 = .int .i64 (fixE many l7) from q18, show f 15 = v15 from q15, show f 16 = .int .i64 (manyF many) from q16, show f 4 = .int .i64 many from q4, show f 5 = .int .i64 a1 from q5, show f 6 = .int .i64 a2 from q6, show f 7 = s7 from q7, show f 8 = s8 from q8]
  clear q23 q24 q21 q22 q19 q20 q17 q18 q15 q16 q4 q5 q6 q7 q8
  conv => arg 2; whnf
  obtain ⟨p7, c7, rfl⟩ := row_slice r3
  obtain ⟨p8, c8, rfl⟩ := row_slice r4
  go_wp2_with (go_at_call 8; refine (manyFault_ref many _).mono ?_; rintro e w1 ⟨rfl, rfl⟩)
  refine Met.intro (hJ _ _ ?_)
  exact ⟨hb, hz, ⟨r0, r1, r2, r3, r4, trivial⟩, Fr.of _ rfl ⟨rfl, rfl, rfl, rfl, rfl, rfl, rfl, rfl, rfl, rfl, rfl, rfl, rfl, rfl, rfl, rfl, trivial⟩⟩

set_option maxRecDepth 100000 in
set_option maxHeartbeats 1000000 in
theorem bt38 (n₀ : Nat) (w0 : World) (many a1 a2 : Int) (s7 : Value) (l7 : List Int) (s8 : Value) (l8 : List Int) (h7 : l7.length ≤ 50) (h8 : l8.length ≤ 50) (v15 : Value) (v17 : Value) (v19 : Value) : Tri Try.prog (T4 n₀ w0 [(v19, 2, (anewR l8).length, cells2 (anewR l8)), (v17, 2, (fixR many l7).length, cells2 (fixR many l7)), (v15, 2, (firstR many).length, cells2 (firstR many)), (s7, 1, l7.length, l7.map (.int .i64)), (s8, 1, l8.length, l8.map (.int .i64))] [(25, .int .i64 (manyF many)), (23, .int .i64 (earlF many a1 a2)), (24, .int .i64 (earlE many a1 a2)), (21, .int .i64 (roundsR many)), (22, .int .i64 (manyF many)), (19, v19), (20, .int .i64 (anewE l8)), (17, v17), (18, .int .i64 (fixE many l7)), (15, v15), (16, .int .i64 (manyF many)), (4, .int .i64 many), (5, .int .i64 a1), (6, .int .i64 a2), (7, s7), (8, s8)]) (sel [1, 1, 1, 1, 1, 1, 1, 1, 1, 1, 1, 1, 1, 1, 1, 0] bm)
    (fun a w => T4 n₀ w0 [(v19, 2, (anewR l8).length, cells2 (anewR l8)), (v17, 2, (fixR many l7).length, cells2 (fixR many l7)), (v15, 2, (firstR many).length, cells2 (firstR many)), (s7, 1, l7.length, l7.map (.int .i64)), (s8, 1, l8.length, l8.map (.int .i64))] [(26, .slice none 0 0), (25, .int .i64 (manyF many)), (23, .int .i64 (earlF many a1 a2)), (24, .int .i64 (earlE many a1 a2)), (21, .int .i64 (roundsR many)), (22, .int .i64 (manyF many)), (19, v19), (20, .int .i64 (anewE l8)), (17, v17), (18, .int .i64 (fixE many l7)), (15, v15), (16, .int .i64 (manyF many)), (4, .int .i64 many), (5, .int .i64 a1), (6, .int .i64 a2), (7, s7), (8, s8)] a w) := by
  rintro Q J K hJ hK a w ⟨hb, hz, ⟨r0, r1, r2, r3, r4, _⟩, ⟨f, rfl, q25, q23, q24, q21, q22, q19, q20, q17, q18, q15, q16, q4, q5, q6, q7, q8, _⟩⟩
  rw [frame242, show f 25 = .int .i64 (manyF many) from q25, show f 23 = .int .i64 (earlF many a1 a2) from q23, show f 24 = .int .i64 (earlE many a1 a2) from q24, show f 21 = .int .i64 (roundsR many) from q21, show f 22 = .int .i64 (manyF many) from q22, show f 19 = v19 from q19, show f 20 = .int .i64 (anewE l8) from q20, show f 17 = v17 from q17, show f 18 = .int .i64 (fixE many l7) from q18, show f 15 = v15 from q15, show f 16 = .int .i64 (manyF many) from q16, show f 4 = .int .i64 many from q4, show f 5 = .int .i64 a1 from q5, show f 6 = .int .i64 a2 from q6, show f 7 = s7 from q7, show f 8 = s8 from q8]
  clear q25 q23 q24 q21 q22 q19 q20 q17 q18 q15 q16 q4 q5 q6 q7 q8
  conv => arg 2; whnf
  obtain ⟨p7, c7, rfl⟩ := row_slice r3
  obtain ⟨p8, c8, rfl⟩ := row_slice r4
  go_wp2
  refine Met.intro (hJ _ _ ?_)
  exact ⟨hb, hz, ⟨r0, r1, r2, r3, r4, trivial⟩, Fr.of _ rfl ⟨rfl, rfl, rfl, rfl, rfl, rfl, rfl, rfl, rfl, rfl, rfl, rfl, rfl, rfl, rfl, rfl, rfl, trivial⟩⟩

set_option maxRecDepth 100000 in
set_option maxHeartbeats 1000000 in
theorem bt39 (n₀ : Nat) (w0 : World) (many a1 a2 : Int) (s7 : Value) (l7 : List Int) (s8 : Value) (l8 : List Int) (h7 : l7.length ≤ 50) (h8 : l8.length ≤ 50) (v15 : Value) (v17 : Value) (v19 : Value) : Tri Try.prog (T4 n₀ w0 [(v19, 2, (anewR l8).length, cells2 (anewR l8)), (v17, 2, (fixR many l7).length, cells2 (fixR many l7)), (v15, 2, (firstR many).length, cells2 (firstR many)), (s7, 1, l7.length, l7.map (.int .i64)), (s8, 1, l8.length, l8.map (.int .i64))] [(26, .slice none 0 0), (25, .int .i64 (manyF many)), (23, .int .i64 (earlF many a1 a2)), (24, .int .i64 (earlE many a1 a2)), (21, .int .i64 (roundsR many)), (22, .int .i64 (manyF many)), (19, v19), (20, .int .i64 (anewE l8)), (17, v17), (18, .int .i64 (fixE many l7)), (15, v15), (16, .int .i64 (manyF many)), (4, .int .i64 many), (5, .int .i64 a1), (6, .int .i64 a2), (7, s7), (8, s8)]) (sel [1, 1, 1, 1, 1, 1, 1, 1, 1, 1, 1, 1, 1, 1, 1, 1, 0] bm)
    (fun a w => T4 n₀ w0 [(v19, 2, (anewR l8).length, cells2 (anewR l8)), (v17, 2, (fixR many l7).length, cells2 (fixR many l7)), (v15, 2, (firstR many).length, cells2 (firstR many)), (s7, 1, l7.length, l7.map (.int .i64)), (s8, 1, l8.length, l8.map (.int .i64))] [(27, .int .i64 0), (26, .slice none 0 0), (25, .int .i64 (manyF many)), (23, .int .i64 (earlF many a1 a2)), (24, .int .i64 (earlE many a1 a2)), (21, .int .i64 (roundsR many)), (22, .int .i64 (manyF many)), (19, v19), (20, .int .i64 (anewE l8)), (17, v17), (18, .int .i64 (fixE many l7)), (15, v15), (16, .int .i64 (manyF many)), (4, .int .i64 many), (5, .int .i64 a1), (6, .int .i64 a2), (7, s7), (8, s8)] a w) := by
  rintro Q J K hJ hK a w ⟨hb, hz, ⟨r0, r1, r2, r3, r4, _⟩, ⟨f, rfl, q26, q25, q23, q24, q21, q22, q19, q20, q17, q18, q15, q16, q4, q5, q6, q7, q8, _⟩⟩
  rw [frame242, show f 26 = .slice none 0 0 from q26, show f 25 = .int .i64 (manyF many) from q25, show f 23 = .int .i64 (earlF many a1 a2) from q23, show f 24 = .int .i64 (earlE many a1 a2) from q24, show f 21 = .int .i64 (roundsR many) from q21, show f 22 = .int .i64 (manyF many) from q22, show f 19 = v19 from q19, show f 20 = .int .i64 (anewE l8) from q20, show f 17 = v17 from q17, show f 18 = .int .i64 (fixE many l7) from q18, show f 15 = v15 from q15, show f 16 = .int .i64 (manyF many) from q16, show f 4 = .int .i64 many from q4, show f 5 = .int .i64 a1 from q5, show f 6 = .int .i64 a2 from q6, show f 7 = s7 from q7, show f 8 = s8 from q8]
  clear q26 q25 q23 q24 q21 q22 q19 q20 q17 q18 q15 q16 q4 q5 q6 q7 q8
  conv => arg 2; whnf
  obtain ⟨p7, c7, rfl⟩ := row_slice r3
  obtain ⟨p8, c8, rfl⟩ := row_slice r4
  go_wp2
  refine Met.intro (hJ _ _ ?_)
  exact ⟨hb, hz, ⟨r0, r1, r2, r3, r4, trivial⟩, Fr.of _ rfl ⟨rfl, rfl, rfl, rfl, rfl, rfl, rfl, rfl, rfl, rfl, rfl, rfl, rfl, rfl, rfl, rfl, rfl, rfl, trivial⟩⟩

end Go.Proofs.Ytkcjklgbadekjaa
