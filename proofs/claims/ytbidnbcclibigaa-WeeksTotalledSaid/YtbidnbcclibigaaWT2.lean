/-
  The law WeeksTotalled: the two loops that look for faults. No condition.
-/
import Derived.Test.YtbidnbcclibigaaWT1
import Derived.Lib.MinMax
namespace Go.Proofs.Ytbidnbcclibigaa
open Go.RowKit Go.Bw
theorem firstErr_succ (f : Int → Int) (i : Int) (h0 : 0 ≤ i) : firstErr f (i + 1) = err2 (firstErr f i) (f i) := by
  unfold firstErr err2
  rw [show (i + 1).toNat = i.toNat + 1 by omega, List.range_succ, List.map_append, List.find?_append]
  generalize hL : (List.range i.toNat).map (fun (j : Nat) => f j) = L
  cases h : L.find? (fun x => x != 0) with
  | none =>
    by_cases hf : f i = 0
    · simp [show ((i.toNat : Nat) : Int) = i by omega, hf]
    · simp [show ((i.toNat : Nat) : Int) = i by omega, hf]
  | some x =>
    have := List.find?_some h
    simp at this
    simp [this]
theorem err2_assoc (a b c : Int) : err2 (err2 a b) c = err2 a (err2 b c) := by
  unfold err2
  by_cases h : a = 0 <;> simp [h]
theorem firstErr_start (f : Int → Int) : firstErr f 0 = 0 := rfl
theorem err2_zero (a : Int) : err2 a 0 = a := by unfold err2; by_cases h : a = 0 <;> simp [h]
theorem totalE_err2 (rs : List RuleL) (ps : List ByteArray) (ls : List LineL) (f t : Int) :
    totalE rs ps ls f t = err2 (err2 (err2 (err2 (rulesE rs) (listE ps)) (linesE ls)) (orderE ls)) (if windowB f t = true then 1 else 0) := by
  unfold totalE askedE err2
  by_cases h1 : rulesE rs = 0 <;> by_cases h2 : listE ps = 0 <;> by_cases h3 : linesE ls = 0 <;> by_cases h4 : orderE ls = 0 <;> simp [h1, h2, h3, h4]
def wtJ (n₀ : Nat) (w0 : World) (vr : Value) (rs : List RuleL) (vp : Value) (ps : List ByteArray) (vx : Value) (ls : List LineL) (g8 : Nat) (f t : Int) (g9 : Nat) (k : Int) (a : Act) (w : World) : Prop := (0 ≤ k ∧ k ≤ ls.length) ∧ (TB n₀ w0 vr rs vp ps vx ls g8 f t w ∧ Blk w g9 [.int .i64 (totN rs ps ls f t), .int .i64 (totD rs ps ls f t)]) ∧ Fr 141 [(4, vr), (5, vp), (6, vx), (8, .pointer (some ⟨g8, 0, none⟩)), (9, .pointer (some ⟨g9, 0, none⟩)), (10, .int .i64 (totalE rs ps ls f t)), (11, .int .i64 (err2 (err2 (rulesE rs) (listE ps)) (firstErr (fun i => lineL (geta ls i)) k))), (65, vx), (66, .int .i64 ls.length), (67, .int .i64 k)] a
set_option maxRecDepth 100000 in
set_option maxHeartbeats 1000000 in
theorem wt15 (n₀ : Nat) (w0 : World) (vr : Value) (rs : List RuleL) (vp : Value) (ps : List ByteArray) (vx : Value) (ls : List LineL) (g8 : Nat) (f t : Int) (g9 : Nat) : T3 Try.prog (fun a w => (TB n₀ w0 vr rs vp ps vx ls g8 f t w ∧ Blk w g9 [.int .i64 (totN rs ps ls f t), .int .i64 (totD rs ps ls f t)]) ∧ Fr 141 [(4, vr), (5, vp), (6, vx), (8, .pointer (some ⟨g8, 0, none⟩)), (9, .pointer (some ⟨g9, 0, none⟩)), (10, .int .i64 (totalE rs ps ls f t)), (11, .int .i64 (err2 (rulesE rs) (listE ps)))] a) (sel [1, 1, 1, 1, 1, 1, 1, 1, 1, 0, 0] wtB) (fun a w => wtJ n₀ w0 vr rs vp ps vx ls g8 f t g9 0 a w) No 9 No := by
  refine T3.leaf ?_
  rintro Q JS JX JT K hS hK hX hE hT hR a w ⟨⟨hB, hG⟩, ⟨fr, rfl, q4, q5, q6, q8, q9, q10, q11, _⟩⟩
  obtain ⟨p1, c1, hv1⟩ := hB.xx.shape
  subst hv1
  rw [frame141, show fr 4 = _ from q4, show fr 5 = _ from q5, show fr 6 = _ from q6, show fr 8 = _ from q8, show fr 9 = _ from q9, show fr 10 = _ from q10, show fr 11 = _ from q11]
  clear q4 q5 q6 q8 q9 q10 q11
  conv => arg 2; whnf
  go_wp2_with fail
  refine Met.intro (hS _ _ ?_)
  exact ⟨⟨by omega, by omega⟩, ⟨hB, hG⟩, Fr.of _ rfl ⟨rfl, rfl, rfl, rfl, rfl, rfl, by rw [firstErr_start, err2_zero]; rfl, rfl, rfl, rfl, trivial⟩⟩

set_option maxRecDepth 100000 in
set_option maxHeartbeats 1000000 in
theorem wt16 (n₀ : Nat) (w0 : World) (vr : Value) (rs : List RuleL) (vp : Value) (ps : List ByteArray) (vx : Value) (ls : List LineL) (g8 : Nat) (f t : Int) (g9 : Nat) (k : Int) : T3 Try.prog (fun a w => wtJ n₀ w0 vr rs vp ps vx ls g8 f t g9 k a w) (sel [1, 1, 1, 1, 1, 1, 1, 1, 1, 0, 1, 4, 4, 0] wtB) (fun a w => ∃ q, Fr 141 ((68, .bool q) :: [(67, .int .i64 k)]) a ∧ ((q = true ↔ k < ls.length) ∧ wtJ n₀ w0 vr rs vp ps vx ls g8 f t g9 k a w)) No 9 No := by
  refine T3.leaf ?_
  rintro Q JS JX JT K hS hK hX hE hT hR a w ⟨hk, ⟨hB, hG⟩, ⟨fr, rfl, q4, q5, q6, q8, q9, q10, q11, q65, q66, q67, _⟩⟩
  rw [frame141, show fr 4 = _ from q4, show fr 5 = _ from q5, show fr 6 = _ from q6, show fr 8 = _ from q8, show fr 9 = _ from q9, show fr 10 = _ from q10, show fr 11 = _ from q11, show fr 65 = _ from q65, show fr 66 = _ from q66, show fr 67 = _ from q67]
  clear q4 q5 q6 q8 q9 q10 q11 q65 q66 q67
  conv => arg 2; whnf
  by_cases hlt : k < ls.length
  · go_wp2_with fail
    refine Met.intro (hS _ _ ?_)
    exact ⟨true, Fr.of _ rfl ⟨rfl, rfl, trivial⟩, ⟨fun _ => hlt, fun _ => rfl⟩, hk, ⟨hB, hG⟩, Fr.of _ rfl ⟨rfl, rfl, rfl, rfl, rfl, rfl, rfl, rfl, rfl, rfl, trivial⟩⟩
  · have hpb : decide (k < (ls.length : Int)) = false := by simp; omega
    go_wp2_with fail
    refine Met.intro (hS _ _ ?_)
    exact ⟨false, Fr.of _ rfl ⟨rfl, rfl, trivial⟩, ⟨(fun h => by cases h), fun h => absurd h (by omega)⟩, hk, ⟨hB, hG⟩, Fr.of _ rfl ⟨rfl, rfl, rfl, rfl, rfl, rfl, rfl, rfl, rfl, rfl, trivial⟩⟩

set_option maxRecDepth 100000 in
set_option maxHeartbeats 1000000 in
theorem wt17 (n₀ : Nat) (w0 : World) (vr : Value) (rs : List RuleL) (vp : Value) (ps : List ByteArray) (vx : Value) (ls : List LineL) (g8 : Nat) (f t : Int) (g9 : Nat) (k : Int) : T3 Try.prog (fun a w => (0 ≤ k ∧ k < ls.length) ∧ (TB n₀ w0 vr rs vp ps vx ls g8 f t w ∧ Blk w g9 [.int .i64 (totN rs ps ls f t), .int .i64 (totD rs ps ls f t)]) ∧ Fr 141 [(4, vr), (5, vp), (6, vx), (8, .pointer (some ⟨g8, 0, none⟩)), (9, .pointer (some ⟨g9, 0, none⟩)), (10, .int .i64 (totalE rs ps ls f t)), (11, .int .i64 (err2 (err2 (rulesE rs) (listE ps)) (firstErr (fun i => lineL (geta ls i)) k))), (65, vx), (66, .int .i64 ls.length), (67, .int .i64 k)] a) (sel [1, 1, 1, 1, 1, 1, 1, 1, 1, 0, 1, 4, 4, 1, 1, 0, 4, 0] wtB) (fun a w => ∃ gx : Nat, (0 ≤ k ∧ k < ls.length) ∧ (Blk w gx (encL (geta ls k))) ∧ (TB n₀ w0 vr rs vp ps vx ls g8 f t w ∧ Blk w g9 [.int .i64 (totN rs ps ls f t), .int .i64 (totD rs ps ls f t)]) ∧ Fr 141 [(13, .pointer (some ⟨gx, 0, none⟩)), (4, vr), (5, vp), (6, vx), (8, .pointer (some ⟨g8, 0, none⟩)), (9, .pointer (some ⟨g9, 0, none⟩)), (10, .int .i64 (totalE rs ps ls f t)), (11, .int .i64 (err2 (err2 (rulesE rs) (listE ps)) (firstErr (fun i => lineL (geta ls i)) k))), (65, vx), (66, .int .i64 ls.length), (67, .int .i64 k)] a) No 9 No := by
  refine T3.leaf ?_
  rintro Q JS JX JT K hS hK hX hE hT hR a w ⟨hk, ⟨hB, hG⟩, ⟨fr, rfl, q4, q5, q6, q8, q9, q10, q11, q65, q66, q67, _⟩⟩
  obtain ⟨hk0, hk1⟩ := hk
  obtain ⟨_, hcs⟩ := hB.xx.els encL_length (by decide)
  rcases hcs with ⟨rfl, h0⟩ | ⟨bz, off, cap, rfl, _, hbz, hnc, hcm, hcell⟩
  · omega
  have c0 := hcell k hk0 hk1 0 _ rfl
  have c1 := hcell k hk0 hk1 1 _ rfl
  have c2 := hcell k hk0 hk1 2 _ rfl
  rw [Nat.add_zero] at c0
  have hm : geta ls k ∈ ls := geta_mem hk0 hk1
  obtain ⟨p4, c4, hv4⟩ := (hB.la _ hm).shape
  have he := Lib.hid (show encL (geta ls k) = [.string (geta ls k).player, .int .i64 (geta ls k).week, .slice p4 (geta ls k).stats.length c4] by unfold encL; rw [hv4])
  rw [hv4] at c2
  clear hv4 hm hcell
  rw [frame141, show fr 4 = _ from q4, show fr 5 = _ from q5, show fr 6 = _ from q6, show fr 8 = _ from q8, show fr 9 = _ from q9, show fr 10 = _ from q10, show fr 11 = _ from q11, show fr 65 = _ from q65, show fr 66 = _ from q66, show fr 67 = _ from q67]
  clear q4 q5 q6 q8 q9 q10 q11 q65 q66 q67
  conv => arg 2; whnf
  go_wp2_with fail
  refine Met.intro (hS _ _ ?_)
  exact ⟨w.heap.size, ⟨hk0, hk1⟩, (by rw [he.out]; exact Blk.new w #[.string (geta ls k).player, .int .i64 (geta ls k).week, .slice p4 (geta ls k).stats.length c4] _), ⟨hB.alloc _, hG.alloc _⟩, Fr.of _ rfl ⟨rfl, rfl, rfl, rfl, rfl, rfl, rfl, rfl, rfl, rfl, rfl, trivial⟩⟩

set_option maxRecDepth 100000 in
set_option maxHeartbeats 1000000 in
theorem wt18 (n₀ : Nat) (w0 : World) (vr : Value) (rs : List RuleL) (vp : Value) (ps : List ByteArray) (vx : Value) (ls : List LineL) (g8 : Nat) (f t : Int) (g9 : Nat) (k : Int) (gx : Nat) : T3 Try.prog (fun a w => (0 ≤ k ∧ k < ls.length) ∧ (Blk w gx (encL (geta ls k))) ∧ (TB n₀ w0 vr rs vp ps vx ls g8 f t w ∧ Blk w g9 [.int .i64 (totN rs ps ls f t), .int .i64 (totD rs ps ls f t)]) ∧ Fr 141 [(13, .pointer (some ⟨gx, 0, none⟩)), (4, vr), (5, vp), (6, vx), (8, .pointer (some ⟨g8, 0, none⟩)), (9, .pointer (some ⟨g9, 0, none⟩)), (10, .int .i64 (totalE rs ps ls f t)), (11, .int .i64 (err2 (err2 (rulesE rs) (listE ps)) (firstErr (fun i => lineL (geta ls i)) k))), (65, vx), (66, .int .i64 ls.length), (67, .int .i64 k)] a) (sel [1, 1, 1, 1, 1, 1, 1, 1, 1, 0, 1, 4, 4, 1, 1, 0, 4, 1] wtB) (fun a w => (0 ≤ k ∧ k < ls.length) ∧ (TB n₀ w0 vr rs vp ps vx ls g8 f t w ∧ Blk w g9 [.int .i64 (totN rs ps ls f t), .int .i64 (totD rs ps ls f t)]) ∧ Fr 141 [(4, vr), (5, vp), (6, vx), (8, .pointer (some ⟨g8, 0, none⟩)), (9, .pointer (some ⟨g9, 0, none⟩)), (10, .int .i64 (totalE rs ps ls f t)), (11, .int .i64 (err2 (err2 (rulesE rs) (listE ps)) (firstErr (fun i => lineL (geta ls i)) (k + 1)))), (65, vx), (66, .int .i64 ls.length), (67, .int .i64 k)] a) No 9 No := by
  refine T3.leaf ?_
  rintro Q JS JX JT K hS hK hX hE hT hR a w ⟨hk, hX_, ⟨hB, hG⟩, ⟨fr, rfl, q13, q4, q5, q6, q8, q9, q10, q11, q65, q66, q67, _⟩⟩
  obtain ⟨hk0, hk1⟩ := hk
  have x0 := hX_.2.1 0 _ rfl
  have x1 := hX_.2.1 1 _ rfl
  have x2 := hX_.2.1 2 _ rfl
  have hm : geta ls k ∈ ls := geta_mem hk0 hk1
  have hR2 := hB.la _ hm
  have hok := hB.lok _ hm
  have hs := Lib.hid (firstErr_succ (fun i => lineL (geta ls i)) k hk0)
  have hll := Lib.hid (show lineL (geta ls k) = lineE (geta ls k).player (geta ls k).week (geta ls k).stats from rfl)
  obtain ⟨p4, c4, hv4⟩ := hR2.shape
  rw [hv4] at hR2 x2
  have HL := Lib.hid (line_ref _ (geta ls k).week _ _ _ 0 w hok.player hR2 hok.stats)
  clear hR2 hok hm hX_ hv4
  generalize hF : firstErr (fun i => lineL (geta ls i)) k = F at *
  have HF := Lib.hid hF
  clear hF
  generalize (geta ls k).player = s1 at *
  generalize (geta ls k).week = n1 at *
  generalize (geta ls k).stats = ts at *
  rw [frame141, show fr 13 = _ from q13, show fr 4 = _ from q4, show fr 5 = _ from q5, show fr 6 = _ from q6, show fr 8 = _ from q8, show fr 9 = _ from q9, show fr 10 = _ from q10, show fr 11 = _ from q11, show fr 65 = _ from q65, show fr 66 = _ from q66, show fr 67 = _ from q67]
  clear q13 q4 q5 q6 q8 q9 q10 q11 q65 q66 q67
  conv => arg 2; whnf
  go_wp2_with fail
  refine HL.out.mono ?_
  rintro e w2 ⟨rfl, hb⟩
  replace hB := hB.below hb
  replace hG := hG.below hb
  clear hb x0 x1 x2
  generalize hE0 : err2 (err2 (rulesE rs) (listE ps)) F = E1 at *
  generalize hE2 : lineE s1 n1 ts = E2 at *
  have HE0 := Lib.hid hE0
  have HE2 := Lib.hid hE2
  clear hE0 hE2
  go_wp2_with fail
  refine (errs_two _ _ w2 _).mono ?_
  rintro e w3 ⟨rfl, hb⟩
  replace hB := hB.below hb
  replace hG := hG.below hb
  clear hb
  go_wp2_with fail
  refine Met.intro (hS _ _ ?_)
  refine ⟨⟨hk0, hk1⟩, ⟨hB, hG⟩, Fr.of _ rfl ⟨rfl, rfl, rfl, rfl, rfl, rfl, ?_, rfl, rfl, rfl, trivial⟩⟩
  show Value.int .i64 (err2 E1 E2) = _
  rw [hs.out, ← err2_assoc, HE0.out, hll.out]

set_option maxRecDepth 100000 in
set_option maxHeartbeats 1000000 in
theorem wt19 (n₀ : Nat) (w0 : World) (vr : Value) (rs : List RuleL) (vp : Value) (ps : List ByteArray) (vx : Value) (ls : List LineL) (g8 : Nat) (f t : Int) (g9 : Nat) (k : Int) : T3 Try.prog (fun a w => (0 ≤ k ∧ k < ls.length) ∧ (TB n₀ w0 vr rs vp ps vx ls g8 f t w ∧ Blk w g9 [.int .i64 (totN rs ps ls f t), .int .i64 (totD rs ps ls f t)]) ∧ Fr 141 [(4, vr), (5, vp), (6, vx), (8, .pointer (some ⟨g8, 0, none⟩)), (9, .pointer (some ⟨g9, 0, none⟩)), (10, .int .i64 (totalE rs ps ls f t)), (11, .int .i64 (err2 (err2 (rulesE rs) (listE ps)) (firstErr (fun i => lineL (geta ls i)) (k + 1)))), (65, vx), (66, .int .i64 ls.length), (67, .int .i64 k)] a) (sel [1, 1, 1, 1, 1, 1, 1, 1, 1, 0, 1, 4, 4, 1, 1, 1] wtB) (fun a w => wtJ n₀ w0 vr rs vp ps vx ls g8 f t g9 (k + 1) a w) No 9 No := by
  refine T3.leaf ?_
  rintro Q JS JX JT K hS hK hX hE hT hR a w ⟨hk, ⟨hB, hG⟩, ⟨fr, rfl, q4, q5, q6, q8, q9, q10, q11, q65, q66, q67, _⟩⟩
  obtain ⟨hk0, hk1⟩ := hk
  have hl5 := hB.l5
  rw [frame141, show fr 4 = _ from q4, show fr 5 = _ from q5, show fr 6 = _ from q6, show fr 8 = _ from q8, show fr 9 = _ from q9, show fr 10 = _ from q10, show fr 11 = _ from q11, show fr 65 = _ from q65, show fr 66 = _ from q66, show fr 67 = _ from q67]
  clear q4 q5 q6 q8 q9 q10 q11 q65 q66 q67
  conv => arg 2; whnf
  go_wp2_with fail
  refine Met.intro (hS _ _ ?_)
  exact ⟨⟨by omega, by omega⟩, ⟨hB, hG⟩, Fr.of _ rfl ⟨rfl, rfl, rfl, rfl, rfl, rfl, rfl, rfl, rfl, rfl, trivial⟩⟩

set_option maxRecDepth 100000 in
set_option maxHeartbeats 1000000 in
theorem wt_loop2 (n₀ : Nat) (w0 : World) (vr : Value) (rs : List RuleL) (vp : Value) (ps : List ByteArray) (vx : Value) (ls : List LineL) (g8 : Nat) (f t : Int) (g9 : Nat) : T3 Try.prog (wtJ n₀ w0 vr rs vp ps vx ls g8 f t g9 0) (sel [1, 1, 1, 1, 1, 1, 1, 1, 1, 0, 1] wtB) (fun a w => (TB n₀ w0 vr rs vp ps vx ls g8 f t w ∧ Blk w g9 [.int .i64 (totN rs ps ls f t), .int .i64 (totD rs ps ls f t)]) ∧ Fr 141 [(4, vr), (5, vp), (6, vx), (8, .pointer (some ⟨g8, 0, none⟩)), (9, .pointer (some ⟨g9, 0, none⟩)), (10, .int .i64 (totalE rs ps ls f t)), (11, .int .i64 (err2 (err2 (rulesE rs) (listE ps)) (linesE ls)))] a) No 9 No := by
  refine T3.loop (c := (sel [1, 1, 1, 1, 1, 1, 1, 1, 1, 0, 1, 4, 4] wtB)) (fun n a w => ∃ k : Int, (n : Int) = ls.length - k ∧ wtJ n₀ w0 vr rs vp ps vx ls g8 f t g9 k a w) (fun a w h => ⟨ls.length, 0, by omega, h⟩) (fun n => T3.ex fun k => T3.pure fun hn => ?_)
  refine T3.seq (s := (sel [1, 1, 1, 1, 1, 1, 1, 1, 1, 0, 1, 4, 4, 0] wtB)) (c := (sel [1, 1, 1, 1, 1, 1, 1, 1, 1, 0, 1, 4, 4, 1] wtB)) ((wt16 n₀ w0 vr rs vp ps vx ls g8 f t g9 k).noX) ?_
  refine T3.seq (s := (sel [1, 1, 1, 1, 1, 1, 1, 1, 1, 0, 1, 4, 4, 1, 0] wtB)) (c := (sel [1, 1, 1, 1, 1, 1, 1, 1, 1, 0, 1, 4, 4, 1, 1] wtB)) (S := fun a w => (0 ≤ k ∧ k < ls.length) ∧ (TB n₀ w0 vr rs vp ps vx ls g8 f t w ∧ Blk w g9 [.int .i64 (totN rs ps ls f t), .int .i64 (totD rs ps ls f t)]) ∧ Fr 141 [(4, vr), (5, vp), (6, vx), (8, .pointer (some ⟨g8, 0, none⟩)), (9, .pointer (some ⟨g9, 0, none⟩)), (10, .int .i64 (totalE rs ps ls f t)), (11, .int .i64 (err2 (err2 (rulesE rs) (listE ps)) (firstErr (fun i => lineL (geta ls i)) k))), (65, vx), (66, .int .i64 ls.length), (67, .int .i64 k)] a) ?_ (T3.seq (s := (sel [1, 1, 1, 1, 1, 1, 1, 1, 1, 0, 1, 4, 4, 1, 1, 0] wtB)) (c := (sel [1, 1, 1, 1, 1, 1, 1, 1, 1, 0, 1, 4, 4, 1, 1, 1] wtB)) (S := fun a w => (0 ≤ k ∧ k < ls.length) ∧ (TB n₀ w0 vr rs vp ps vx ls g8 f t w ∧ Blk w g9 [.int .i64 (totN rs ps ls f t), .int .i64 (totD rs ps ls f t)]) ∧ Fr 141 [(4, vr), (5, vp), (6, vx), (8, .pointer (some ⟨g8, 0, none⟩)), (9, .pointer (some ⟨g9, 0, none⟩)), (10, .int .i64 (totalE rs ps ls f t)), (11, .int .i64 (err2 (err2 (rulesE rs) (listE ps)) (firstErr (fun i => lineL (geta ls i)) (k + 1)))), (65, vx), (66, .int .i64 ls.length), (67, .int .i64 k)] a) (T3.noX (T3.block (id := 9) (id' := 3) (c := (sel [1, 1, 1, 1, 1, 1, 1, 1, 1, 0, 1, 4, 4, 1, 1, 0, 4] wtB)) (by decide) (T3.seq (s := (sel [1, 1, 1, 1, 1, 1, 1, 1, 1, 0, 1, 4, 4, 1, 1, 0, 4, 0] wtB)) (c := (sel [1, 1, 1, 1, 1, 1, 1, 1, 1, 0, 1, 4, 4, 1, 1, 0, 4, 1] wtB)) (wt17 n₀ w0 vr rs vp ps vx ls g8 f t g9 k) (T3.ex fun gx => wt18 n₀ w0 vr rs vp ps vx ls g8 f t g9 k gx)))) ?_)
  · refine T3.cond (o := .tmp 68) (x := .skip) (y := .exit 2) (fun a w => k < ls.length ∧ wtJ n₀ w0 vr rs vp ps vx ls g8 f t g9 k a w) (fun a w => ¬ k < ls.length ∧ wtJ n₀ w0 vr rs vp ps vx ls g8 f t g9 k a w) ?_ (T3.skip ?_) (T3.exit ?_)
    · rintro a w ⟨q, hF, hq, hI⟩
      have he := hF.eval 68 (by decide) (v := .bool q) (by simp)
      cases q
      · exact .inr ⟨he, (fun h => by have := hq.2 h; cases this), hI⟩
      · exact .inl ⟨he, hq.1 rfl, hI⟩
    · rintro a w ⟨hlt, hk, hI⟩
      exact ⟨⟨hk.1, hlt⟩, hI⟩
    · rintro a w ⟨hlt, hk, hN, hF⟩
      obtain rfl : k = ls.length := by omega
      exact ⟨hN, hF.sub (by intro p hp; simp only [List.mem_append, List.mem_cons, List.mem_nil_iff, or_false] at hp ⊢; rcases hp with h | h | h | h | h | h | h <;> simp [h, linesE])⟩
  · intro a w hx
    have hk := hx.1
    exact (((wt19 n₀ w0 vr rs vp ps vx ls g8 f t g9 k).noX).post (fun a w q => ⟨n - 1, by omega, k + 1, by omega, q⟩)) a w hx
end Go.Proofs.Ytbidnbcclibigaa
