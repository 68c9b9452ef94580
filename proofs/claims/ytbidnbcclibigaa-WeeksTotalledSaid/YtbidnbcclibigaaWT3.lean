/-
  The law WeeksTotalled: the loop that looks at the order of the lines. No condition.
-/
import Derived.Test.YtbidnbcclibigaaWT2
namespace Go.Bw
open Go.RowKit
/-- An ending that only goes on. -/
def OnlyN (J : Rel) : Exit → Act → World → Prop
  | .normal, a, w => J a w
  | _, _, _ => False
/-- The calm operations, met at a relation that hides what is to come. -/
theorem wpCalm_hide {P : Program} {ops : Array Oper} {w₁ : World} {Qa : Act → Prop} {l : List Oper} {a : Act}
    (h : ∀ W : List Oper → Act → Prop, Hid (∀ o rest a, (∀ K : Act → Prop, (∀ a, W rest a → K a) → if Region.wanted o (yielded ops a.tmps) then Oper.calm P o a w₁ K else K (a.put o.dst undef)) → W (o :: rest) a) → Hid (∀ a, Qa a → W [] a) → W l a) : wpCalm P ops w₁ Qa l a :=
  h (wpCalm P ops w₁ Qa) (Lib.hid fun _ _ _ h => wpCalm_step h) (Lib.hid fun _ h => h)
theorem T3.leafN {P : Program} {R S X T : Rel} {s : Code} {id : Nat} (h : ∀ JS : Rel, (∀ a w, S a w → JS a w) → ∀ a w, R a w → s.wp P (OnlyN JS) a w) : T3 P R s S X id T := by
  intro a w hR
  refine wp_mono (h S (fun _ _ q => q) a w hR) ?_
  intro e a w q
  cases e with
  | normal => exact q
  | _ => exact q.elim
end Go.Bw
namespace Go.Proofs.Ytbidnbcclibigaa
open Go.RowKit Go.Bw
def wtK (n₀ : Nat) (w0 : World) (vr : Value) (rs : List RuleL) (vp : Value) (ps : List ByteArray) (vx : Value) (ls : List LineL) (g8 : Nat) (f t : Int) (g9 : Nat) (k : Int) (a : Act) (w : World) : Prop := (0 ≤ k ∧ k ≤ ls.length) ∧ (TB n₀ w0 vr rs vp ps vx ls g8 f t w ∧ Blk w g9 [.int .i64 (totN rs ps ls f t), .int .i64 (totD rs ps ls f t)]) ∧ Fr 141 [(4, vr), (5, vp), (6, vx), (8, .pointer (some ⟨g8, 0, none⟩)), (9, .pointer (some ⟨g9, 0, none⟩)), (10, .int .i64 (totalE rs ps ls f t)), (11, .int .i64 (err2 (err2 (err2 (rulesE rs) (listE ps)) (linesE ls)) (firstErr (ordAt ls) k))), (77, vx), (78, .int .i64 ls.length), (79, .int .i64 k)] a
set_option maxRecDepth 100000 in
set_option maxHeartbeats 1000000 in
theorem wt20 (n₀ : Nat) (w0 : World) (vr : Value) (rs : List RuleL) (vp : Value) (ps : List ByteArray) (vx : Value) (ls : List LineL) (g8 : Nat) (f t : Int) (g9 : Nat) : T3 Try.prog (fun a w => (TB n₀ w0 vr rs vp ps vx ls g8 f t w ∧ Blk w g9 [.int .i64 (totN rs ps ls f t), .int .i64 (totD rs ps ls f t)]) ∧ Fr 141 [(4, vr), (5, vp), (6, vx), (8, .pointer (some ⟨g8, 0, none⟩)), (9, .pointer (some ⟨g9, 0, none⟩)), (10, .int .i64 (totalE rs ps ls f t)), (11, .int .i64 (err2 (err2 (rulesE rs) (listE ps)) (linesE ls)))] a) (sel [1, 1, 1, 1, 1, 1, 1, 1, 1, 1, 0, 0] wtB) (fun a w => wtK n₀ w0 vr rs vp ps vx ls g8 f t g9 0 a w) No 9 No := by
  refine T3.leaf ?_
  rintro Q JS JX JT K hS hK hX hE hT hR a w ⟨⟨hB, hG⟩, ⟨fr, rfl, q4, q5, q6, q8, q9, q10, q11, _⟩⟩
  obtain ⟨p1, c1, hv1⟩ := hB.xx.shape
  subst hv1
  rw [frame141, show fr 4 = _ from q4, show fr 5 = _ from q5, show fr 6 = _ from q6, show fr 8 = _ from q8, show fr 9 = _ from q9, show fr 10 = _ from q10, show fr 11 = _ from q11]
  clear q4 q5 q6 q8 q9 q10 q11
  conv => arg 2; whnf
  go_wp2_with fail
  refine Met.intro (hS _ _ ?_)
  exact ⟨⟨by omega, by omega⟩, ⟨hB, hG⟩, Fr.of _ rfl ⟨rfl, rfl, rfl, rfl, rfl, rfl, by rw [firstErr_start, err2_zero]; rfl, rfl, rfl, rfl, trivial⟩⟩

set_option maxRecDepth 100000 in
set_option maxHeartbeats 1000000 in
theorem wt21 (n₀ : Nat) (w0 : World) (vr : Value) (rs : List RuleL) (vp : Value) (ps : List ByteArray) (vx : Value) (ls : List LineL) (g8 : Nat) (f t : Int) (g9 : Nat) (k : Int) : T3 Try.prog (fun a w => wtK n₀ w0 vr rs vp ps vx ls g8 f t g9 k a w) (sel [1, 1, 1, 1, 1, 1, 1, 1, 1, 1, 0, 1, 4, 4, 0] wtB) (fun a w => ∃ q, Fr 141 ((80, .bool q) :: [(79, .int .i64 k)]) a ∧ ((q = true ↔ k < ls.length) ∧ wtK n₀ w0 vr rs vp ps vx ls g8 f t g9 k a w)) No 9 No := by
  refine T3.leaf ?_
  rintro Q JS JX JT K hS hK hX hE hT hR a w ⟨hk, ⟨hB, hG⟩, ⟨fr, rfl, q4, q5, q6, q8, q9, q10, q11, q77, q78, q79, _⟩⟩
  rw [frame141, show fr 4 = _ from q4, show fr 5 = _ from q5, show fr 6 = _ from q6, show fr 8 = _ from q8, show fr 9 = _ from q9, show fr 10 = _ from q10, show fr 11 = _ from q11, show fr 77 = _ from q77, show fr 78 = _ from q78, show fr 79 = _ from q79]
  clear q4 q5 q6 q8 q9 q10 q11 q77 q78 q79
  conv => arg 2; whnf
  by_cases hlt : k < ls.length
  · go_wp2_with fail
    refine Met.intro (hS _ _ ?_)
    exact ⟨true, Fr.of _ rfl ⟨rfl, rfl, trivial⟩, ⟨fun _ => hlt, fun _ => rfl⟩, hk, ⟨hB, hG⟩, Fr.of _ rfl ⟨rfl, rfl, rfl, rfl, rfl, rfl, rfl, rfl, rfl, rfl, trivial⟩⟩
  · have hpb : decide (k < (ls.length : Int)) = false := by simp; omega
    go_wp2_with fail
    refine Met.intro (hS _ _ ?_)
    exact ⟨false, Fr.of _ rfl ⟨rfl, rfl, trivial⟩, ⟨(fun h => by cases h), fun h => absurd h (by omega)⟩, hk, ⟨hB, hG⟩, Fr.of _ rfl ⟨rfl, rfl, rfl, rfl, rfl, rfl, rfl, rfl, rfl, rfl, trivial⟩⟩

set_option maxRecDepth 100000 in
set_option maxHeartbeats 1000000 in
theorem wt22 (n₀ : Nat) (w0 : World) (vr : Value) (rs : List RuleL) (vp : Value) (ps : List ByteArray) (vx : Value) (ls : List LineL) (g8 : Nat) (f t : Int) (g9 : Nat) (k : Int) : T3 Try.prog (fun a w => (0 ≤ k ∧ k < ls.length) ∧ (TB n₀ w0 vr rs vp ps vx ls g8 f t w ∧ Blk w g9 [.int .i64 (totN rs ps ls f t), .int .i64 (totD rs ps ls f t)]) ∧ Fr 141 [(4, vr), (5, vp), (6, vx), (8, .pointer (some ⟨g8, 0, none⟩)), (9, .pointer (some ⟨g9, 0, none⟩)), (10, .int .i64 (totalE rs ps ls f t)), (11, .int .i64 (err2 (err2 (err2 (rulesE rs) (listE ps)) (linesE ls)) (firstErr (ordAt ls) k))), (77, vx), (78, .int .i64 ls.length), (79, .int .i64 k)] a) (sel [1, 1, 1, 1, 1, 1, 1, 1, 1, 1, 0, 1, 4, 4, 1, 1, 0, 4, 0] wtB) (fun a w => ∃ gx : Nat, (0 ≤ k ∧ k < ls.length) ∧ (Blk w gx (encL (geta ls k))) ∧ (TB n₀ w0 vr rs vp ps vx ls g8 f t w ∧ Blk w g9 [.int .i64 (totN rs ps ls f t), .int .i64 (totD rs ps ls f t)]) ∧ Fr 141 [(15, .pointer (some ⟨gx, 0, none⟩)), (14, .int .i64 k), (4, vr), (5, vp), (6, vx), (8, .pointer (some ⟨g8, 0, none⟩)), (9, .pointer (some ⟨g9, 0, none⟩)), (10, .int .i64 (totalE rs ps ls f t)), (11, .int .i64 (err2 (err2 (err2 (rulesE rs) (listE ps)) (linesE ls)) (firstErr (ordAt ls) k))), (77, vx), (78, .int .i64 ls.length), (79, .int .i64 k)] a) No 9 No := by
  refine T3.leaf ?_
  rintro Q JS JX JT K hS hK hX hE hT hR a w ⟨hk, ⟨hB, hG⟩, ⟨fr, rfl, q4, q5, q6, q8, q9, q10, q11, q77, q78, q79, _⟩⟩
  obtain ⟨hk0, hk1⟩ := hk
  obtain ⟨_, hcs⟩ := hB.xx.els encL_length (by decide)
  rcases hcs with ⟨rfl, h0⟩ | ⟨bz, off, cap, rfl, _, hbz, hnc, hcm, hcell⟩
  · omega
  have c0 := hcell k hk0 hk1 0 _ rfl
  have c1 := hcell k hk0 hk1 1 _ rfl
  have c2 := hcell k hk0 hk1 2 _ rfl
  rw [Nat.add_zero] at c0
  have hm : geta ls k ∈ ls := geta_mem hk0 hk1
  obtain ⟨p4, c4, hv4⟩ := (hB.la _ hm).shape
  have he := Lib.hid (show encL (geta ls k) = [.string (geta ls k).player, .int .i64 (geta ls k).week, .slice p4 (geta ls k).stats.length c4] by unfold encL; rw [hv4])
  rw [hv4] at c2
  clear hv4 hm hcell
  rw [frame141, show fr 4 = _ from q4, show fr 5 = _ from q5, show fr 6 = _ from q6, show fr 8 = _ from q8, show fr 9 = _ from q9, show fr 10 = _ from q10, show fr 11 = _ from q11, show fr 77 = _ from q77, show fr 78 = _ from q78, show fr 79 = _ from q79]
  clear q4 q5 q6 q8 q9 q10 q11 q77 q78 q79
  conv => arg 2; whnf
  go_wp2_with fail
  refine Met.intro (hS _ _ ?_)
  exact ⟨w.heap.size, ⟨hk0, hk1⟩, (by rw [he.out]; exact Blk.new w #[.string (geta ls k).player, .int .i64 (geta ls k).week, .slice p4 (geta ls k).stats.length c4] _), ⟨hB.alloc _, hG.alloc _⟩, Fr.of _ rfl ⟨rfl, rfl, rfl, rfl, rfl, rfl, rfl, rfl, rfl, rfl, rfl, rfl, trivial⟩⟩

set_option maxRecDepth 100000 in
set_option maxHeartbeats 1000000 in
theorem wt23 (n₀ : Nat) (w0 : World) (vr : Value) (rs : List RuleL) (vp : Value) (ps : List ByteArray) (vx : Value) (ls : List LineL) (g8 : Nat) (f t : Int) (g9 : Nat) (k : Int) (gx : Nat) : T3 Try.prog (fun a w => (0 ≤ k ∧ k < ls.length) ∧ (Blk w gx (encL (geta ls k))) ∧ (TB n₀ w0 vr rs vp ps vx ls g8 f t w ∧ Blk w g9 [.int .i64 (totN rs ps ls f t), .int .i64 (totD rs ps ls f t)]) ∧ Fr 141 [(15, .pointer (some ⟨gx, 0, none⟩)), (14, .int .i64 k), (4, vr), (5, vp), (6, vx), (8, .pointer (some ⟨g8, 0, none⟩)), (9, .pointer (some ⟨g9, 0, none⟩)), (10, .int .i64 (totalE rs ps ls f t)), (11, .int .i64 (err2 (err2 (err2 (rulesE rs) (listE ps)) (linesE ls)) (firstErr (ordAt ls) k))), (77, vx), (78, .int .i64 ls.length), (79, .int .i64 k)] a) (sel [1, 1, 1, 1, 1, 1, 1, 1, 1, 1, 0, 1, 4, 4, 1, 1, 0, 4, 1] wtB) (fun a w => (0 ≤ k ∧ k < ls.length) ∧ (TB n₀ w0 vr rs vp ps vx ls g8 f t w ∧ Blk w g9 [.int .i64 (totN rs ps ls f t), .int .i64 (totD rs ps ls f t)]) ∧ Fr 141 [(4, vr), (5, vp), (6, vx), (8, .pointer (some ⟨g8, 0, none⟩)), (9, .pointer (some ⟨g9, 0, none⟩)), (10, .int .i64 (totalE rs ps ls f t)), (11, .int .i64 (err2 (err2 (err2 (rulesE rs) (listE ps)) (linesE ls)) (firstErr (ordAt ls) (k + 1)))), (77, vx), (78, .int .i64 ls.length), (79, .int .i64 k)] a) No 9 No := by
  refine T3.leafN ?_
  rintro JS hS a w ⟨hk, hX_, ⟨hB, hG⟩, ⟨fr, rfl, q15, q14, q4, q5, q6, q8, q9, q10, q11, q77, q78, q79, _⟩⟩
  have hl5 := hB.l5
  obtain ⟨hk0, hk1⟩ := hk
  obtain ⟨_, hcs⟩ := hB.xx.els encL_length (by decide)
  rcases hcs with ⟨rfl, h0⟩ | ⟨bz, off, cap, rfl, _, hbz, hnc, hcm, hcell⟩
  · omega
  have c0 := hcell k hk0 hk1 0 _ rfl
  have c1 := hcell k hk0 hk1 1 _ rfl
  have c2 := hcell k hk0 hk1 2 _ rfl
  clear c0 c1 c2
  have hA := @cell?_allocs
  have x1 := hX_.2.1 1 _ rfl
  have hs := Lib.hid (show err2 (err2 (err2 (rulesE rs) (listE ps)) (linesE ls)) (firstErr (ordAt ls) (k + 1)) = err2 (err2 (err2 (err2 (rulesE rs) (listE ps)) (linesE ls)) (firstErr (ordAt ls) k)) (ordAt ls k) by rw [firstErr_succ _ k hk0]; exact (err2_assoc _ _ _).symm)
  generalize hF : err2 (err2 (err2 (rulesE rs) (listE ps)) (linesE ls)) (firstErr (ordAt ls) k) = F at *
  clear hF
  have Ho := Lib.hid (show ordAt ls k = if 0 < k ∧ (geta ls k).week ≤ (geta ls (k - 1)).week then 7 else 0 from rfl)
  generalize hod : ordAt ls k = od at *
  clear hod hX_
  generalize (geta ls k).week = n1 at *
  by_cases h0 : 0 < k
  · obtain ⟨j, hj⟩ : ∃ j, k - 1 = j := ⟨_, rfl⟩
    have d1 := hcell (k - 1) (by omega) (by omega) 1 _ rfl
    rw [hj] at d1 Ho
    clear hcell
    have hj0 : 0 ≤ j := by omega
    have hj1 : j < ls.length := by omega
    have hmx : max 0 j = j := by omega
    have hwj : IntKind.i64.wrap j = j := IntWalk.i64_in _ (by omega)
    generalize (geta ls j).week = n2 at *
    by_cases hle : n1 ≤ n2
    · obtain rfl : od = 7 := by rw [Ho.out, if_pos ⟨h0, hle⟩]
      clear Ho
      rw [frame141, show fr 15 = _ from q15, show fr 14 = _ from q14, show fr 4 = _ from q4, show fr 5 = _ from q5, show fr 6 = _ from q6, show fr 8 = _ from q8, show fr 9 = _ from q9, show fr 10 = _ from q10, show fr 11 = _ from q11, show fr 77 = _ from q77, show fr 78 = _ from q78, show fr 79 = _ from q79]
      clear q15 q14 q4 q5 q6 q8 q9 q10 q11 q77 q78 q79
      conv => arg 2; whnf
      refine wp_region_pure' [0] [1, 2, 3, 4, 5, 6, 7, 8, 9, 10, 11, 12, 13, 14] [15, 16, 17, 18] (by kernel_rfl) (by kernel_rfl) (by kernel_rfl) (by intro c a d v w h; cases d <;> exact h) ?_
      simp only [pickOps, List.filterMap_cons, List.filterMap_nil, List.getElem?_cons_succ, List.getElem?_cons_zero]
      refine wpPure_step (fun K hK => ?_); go_simp; refine hK _ ?_; clear hK K
      refine wpPure_nil ?_
      refine wpCalm_hide (fun W hW hN => ?_)
      repeat (refine hW.out _ _ _ (fun K hK => ?_); go_simp; refine hK _ ?_; clear hK K)
      refine hN.out _ ?_
      clear hA hW hN W
      go_wp2_with fail
      refine (when_any _ _ _).mono ?_
      rintro e w2 ⟨rfl, rfl⟩
      go_wp2_with fail
      refine (errs_two _ _ w.drew _).mono ?_
      rintro e w3 ⟨rfl, hb⟩
      replace hB := (hB.below (below_drewN (Below.refl _ _) 1)).below hb
      replace hG := (hG.below (below_drewN (Below.refl _ _) 1)).below hb
      clear hb
      go_wp2_with fail
      refine hS _ _ ?_
      refine ⟨⟨by omega, hk1⟩, ⟨hB, hG⟩, Fr.of _ rfl ⟨rfl, rfl, rfl, rfl, rfl, rfl, ?_, rfl, rfl, rfl, trivial⟩⟩
      exact congrArg _ hs.out.symm
    · obtain rfl : od = 0 := by rw [Ho.out, if_neg (by omega)]
      have hlb : decide (n1 ≤ n2) = false := by simp; omega
      clear Ho
      rw [frame141, show fr 15 = _ from q15, show fr 14 = _ from q14, show fr 4 = _ from q4, show fr 5 = _ from q5, show fr 6 = _ from q6, show fr 8 = _ from q8, show fr 9 = _ from q9, show fr 10 = _ from q10, show fr 11 = _ from q11, show fr 77 = _ from q77, show fr 78 = _ from q78, show fr 79 = _ from q79]
      clear q15 q14 q4 q5 q6 q8 q9 q10 q11 q77 q78 q79
      conv => arg 2; whnf
      refine wp_region_pure' [0] [1, 2, 3, 4, 5, 6, 7, 8, 9, 10, 11, 12, 13, 14] [15, 16, 17, 18] (by kernel_rfl) (by kernel_rfl) (by kernel_rfl) (by intro c a d v w h; cases d <;> exact h) ?_
      simp only [pickOps, List.filterMap_cons, List.filterMap_nil, List.getElem?_cons_succ, List.getElem?_cons_zero]
      refine wpPure_step (fun K hK => ?_); go_simp; refine hK _ ?_; clear hK K
      refine wpPure_nil ?_
      refine wpCalm_hide (fun W hW hN => ?_)
      repeat (refine hW.out _ _ _ (fun K hK => ?_); go_simp; refine hK _ ?_; clear hK K)
      refine hN.out _ ?_
      clear hA hW hN W
      go_wp2_with fail
      refine (when_any _ _ _).mono ?_
      rintro e w2 ⟨rfl, rfl⟩
      go_wp2_with fail
      refine (errs_two _ _ w.drew _).mono ?_
      rintro e w3 ⟨rfl, hb⟩
      replace hB := (hB.below (below_drewN (Below.refl _ _) 1)).below hb
      replace hG := (hG.below (below_drewN (Below.refl _ _) 1)).below hb
      clear hb
      go_wp2_with fail
      refine hS _ _ ?_
      refine ⟨⟨by omega, hk1⟩, ⟨hB, hG⟩, Fr.of _ rfl ⟨rfl, rfl, rfl, rfl, rfl, rfl, ?_, rfl, rfl, rfl, trivial⟩⟩
      exact congrArg _ hs.out.symm
  · obtain rfl : od = 0 := by rw [Ho.out, if_neg (by omega)]
    have hpb : decide (0 < k) = false := by simp; omega
    clear Ho hcell h0
    rw [frame141, show fr 15 = _ from q15, show fr 14 = _ from q14, show fr 4 = _ from q4, show fr 5 = _ from q5, show fr 6 = _ from q6, show fr 8 = _ from q8, show fr 9 = _ from q9, show fr 10 = _ from q10, show fr 11 = _ from q11, show fr 77 = _ from q77, show fr 78 = _ from q78, show fr 79 = _ from q79]
    clear q15 q14 q4 q5 q6 q8 q9 q10 q11 q77 q78 q79
    conv => arg 2; whnf
    refine wp_region_pure' [0] [1, 2, 3, 4, 5, 6, 7, 8, 9, 10, 11, 12, 13, 14] [15, 16, 17, 18] (by kernel_rfl) (by kernel_rfl) (by kernel_rfl) (by intro c a d v w h; cases d <;> exact h) ?_
    simp only [pickOps, List.filterMap_cons, List.filterMap_nil, List.getElem?_cons_succ, List.getElem?_cons_zero]
    refine wpPure_step (fun K hK => ?_); go_simp; refine hK _ ?_; clear hK K
    refine wpPure_nil ?_
    refine wpCalm_hide (fun W hW hN => ?_)
    repeat (refine hW.out _ _ _ (fun K hK => ?_); go_simp; refine hK _ ?_; clear hK K)
    refine hN.out _ ?_
    clear hA hW hN W
    go_wp2_with fail
    refine (when_any _ _ _).mono ?_
    rintro e w2 ⟨rfl, rfl⟩
    go_wp2_with fail
    refine (errs_two _ _ w.drew _).mono ?_
    rintro e w3 ⟨rfl, hb⟩
    replace hB := (hB.below (below_drewN (Below.refl _ _) 1)).below hb
    replace hG := (hG.below (below_drewN (Below.refl _ _) 1)).below hb
    clear hb
    go_wp2_with fail
    refine hS _ _ ?_
    refine ⟨⟨by omega, hk1⟩, ⟨hB, hG⟩, Fr.of _ rfl ⟨rfl, rfl, rfl, rfl, rfl, rfl, ?_, rfl, rfl, rfl, trivial⟩⟩
    exact congrArg _ hs.out.symm

set_option maxRecDepth 100000 in
set_option maxHeartbeats 1000000 in
theorem wt24 (n₀ : Nat) (w0 : World) (vr : Value) (rs : List RuleL) (vp : Value) (ps : List ByteArray) (vx : Value) (ls : List LineL) (g8 : Nat) (f t : Int) (g9 : Nat) (k : Int) : T3 Try.prog (fun a w => (0 ≤ k ∧ k < ls.length) ∧ (TB n₀ w0 vr rs vp ps vx ls g8 f t w ∧ Blk w g9 [.int .i64 (totN rs ps ls f t), .int .i64 (totD rs ps ls f t)]) ∧ Fr 141 [(4, vr), (5, vp), (6, vx), (8, .pointer (some ⟨g8, 0, none⟩)), (9, .pointer (some ⟨g9, 0, none⟩)), (10, .int .i64 (totalE rs ps ls f t)), (11, .int .i64 (err2 (err2 (err2 (rulesE rs) (listE ps)) (linesE ls)) (firstErr (ordAt ls) (k + 1)))), (77, vx), (78, .int .i64 ls.length), (79, .int .i64 k)] a) (sel [1, 1, 1, 1, 1, 1, 1, 1, 1, 1, 0, 1, 4, 4, 1, 1, 1] wtB) (fun a w => wtK n₀ w0 vr rs vp ps vx ls g8 f t g9 (k + 1) a w) No 9 No := by
  refine T3.leaf ?_
  rintro Q JS JX JT K hS hK hX hE hT hR a w ⟨hk, ⟨hB, hG⟩, ⟨fr, rfl, q4, q5, q6, q8, q9, q10, q11, q77, q78, q79, _⟩⟩
  obtain ⟨hk0, hk1⟩ := hk
  have hl5 := hB.l5
  rw [frame141, show fr 4 = _ from q4, show fr 5 = _ from q5, show fr 6 = _ from q6, show fr 8 = _ from q8, show fr 9 = _ from q9, show fr 10 = _ from q10, show fr 11 = _ from q11, show fr 77 = _ from q77, show fr 78 = _ from q78, show fr 79 = _ from q79]
  clear q4 q5 q6 q8 q9 q10 q11 q77 q78 q79
  conv => arg 2; whnf
  go_wp2_with fail
  refine Met.intro (hS _ _ ?_)
  exact ⟨⟨by omega, by omega⟩, ⟨hB, hG⟩, Fr.of _ rfl ⟨rfl, rfl, rfl, rfl, rfl, rfl, rfl, rfl, rfl, rfl, trivial⟩⟩

set_option maxRecDepth 100000 in
set_option maxHeartbeats 1000000 in
theorem wt_loop3 (n₀ : Nat) (w0 : World) (vr : Value) (rs : List RuleL) (vp : Value) (ps : List ByteArray) (vx : Value) (ls : List LineL) (g8 : Nat) (f t : Int) (g9 : Nat) : T3 Try.prog (wtK n₀ w0 vr rs vp ps vx ls g8 f t g9 0) (sel [1, 1, 1, 1, 1, 1, 1, 1, 1, 1, 0, 1] wtB) (fun a w => (TB n₀ w0 vr rs vp ps vx ls g8 f t w ∧ Blk w g9 [.int .i64 (totN rs ps ls f t), .int .i64 (totD rs ps ls f t)]) ∧ Fr 141 [(4, vr), (5, vp), (6, vx), (8, .pointer (some ⟨g8, 0, none⟩)), (9, .pointer (some ⟨g9, 0, none⟩)), (10, .int .i64 (totalE rs ps ls f t)), (11, .int .i64 (err2 (err2 (err2 (rulesE rs) (listE ps)) (linesE ls)) (orderE ls)))] a) No 9 No := by
  refine T3.loop (c := (sel [1, 1, 1, 1, 1, 1, 1, 1, 1, 1, 0, 1, 4, 4] wtB)) (fun n a w => ∃ k : Int, (n : Int) = ls.length - k ∧ wtK n₀ w0 vr rs vp ps vx ls g8 f t g9 k a w) (fun a w h => ⟨ls.length, 0, by omega, h⟩) (fun n => T3.ex fun k => T3.pure fun hn => ?_)
  refine T3.seq (s := (sel [1, 1, 1, 1, 1, 1, 1, 1, 1, 1, 0, 1, 4, 4, 0] wtB)) (c := (sel [1, 1, 1, 1, 1, 1, 1, 1, 1, 1, 0, 1, 4, 4, 1] wtB)) ((wt21 n₀ w0 vr rs vp ps vx ls g8 f t g9 k).noX) ?_
  refine T3.seq (s := (sel [1, 1, 1, 1, 1, 1, 1, 1, 1, 1, 0, 1, 4, 4, 1, 0] wtB)) (c := (sel [1, 1, 1, 1, 1, 1, 1, 1, 1, 1, 0, 1, 4, 4, 1, 1] wtB)) (S := fun a w => (0 ≤ k ∧ k < ls.length) ∧ (TB n₀ w0 vr rs vp ps vx ls g8 f t w ∧ Blk w g9 [.int .i64 (totN rs ps ls f t), .int .i64 (totD rs ps ls f t)]) ∧ Fr 141 [(4, vr), (5, vp), (6, vx), (8, .pointer (some ⟨g8, 0, none⟩)), (9, .pointer (some ⟨g9, 0, none⟩)), (10, .int .i64 (totalE rs ps ls f t)), (11, .int .i64 (err2 (err2 (err2 (rulesE rs) (listE ps)) (linesE ls)) (firstErr (ordAt ls) k))), (77, vx), (78, .int .i64 ls.length), (79, .int .i64 k)] a) ?_ (T3.seq (s := (sel [1, 1, 1, 1, 1, 1, 1, 1, 1, 1, 0, 1, 4, 4, 1, 1, 0] wtB)) (c := (sel [1, 1, 1, 1, 1, 1, 1, 1, 1, 1, 0, 1, 4, 4, 1, 1, 1] wtB)) (S := fun a w => (0 ≤ k ∧ k < ls.length) ∧ (TB n₀ w0 vr rs vp ps vx ls g8 f t w ∧ Blk w g9 [.int .i64 (totN rs ps ls f t), .int .i64 (totD rs ps ls f t)]) ∧ Fr 141 [(4, vr), (5, vp), (6, vx), (8, .pointer (some ⟨g8, 0, none⟩)), (9, .pointer (some ⟨g9, 0, none⟩)), (10, .int .i64 (totalE rs ps ls f t)), (11, .int .i64 (err2 (err2 (err2 (rulesE rs) (listE ps)) (linesE ls)) (firstErr (ordAt ls) (k + 1)))), (77, vx), (78, .int .i64 ls.length), (79, .int .i64 k)] a) (T3.noX (T3.block (id := 9) (id' := 5) (c := (sel [1, 1, 1, 1, 1, 1, 1, 1, 1, 1, 0, 1, 4, 4, 1, 1, 0, 4] wtB)) (by decide) (T3.seq (s := (sel [1, 1, 1, 1, 1, 1, 1, 1, 1, 1, 0, 1, 4, 4, 1, 1, 0, 4, 0] wtB)) (c := (sel [1, 1, 1, 1, 1, 1, 1, 1, 1, 1, 0, 1, 4, 4, 1, 1, 0, 4, 1] wtB)) (wt22 n₀ w0 vr rs vp ps vx ls g8 f t g9 k) (T3.ex fun gx => wt23 n₀ w0 vr rs vp ps vx ls g8 f t g9 k gx)))) ?_)
  · refine T3.cond (o := .tmp 80) (x := .skip) (y := .exit 4) (fun a w => k < ls.length ∧ wtK n₀ w0 vr rs vp ps vx ls g8 f t g9 k a w) (fun a w => ¬ k < ls.length ∧ wtK n₀ w0 vr rs vp ps vx ls g8 f t g9 k a w) ?_ (T3.skip ?_) (T3.exit ?_)
    · rintro a w ⟨q, hF, hq, hI⟩
      have he := hF.eval 80 (by decide) (v := .bool q) (by simp)
      cases q
      · exact .inr ⟨he, (fun h => by have := hq.2 h; cases this), hI⟩
      · exact .inl ⟨he, hq.1 rfl, hI⟩
    · rintro a w ⟨hlt, hk, hI⟩
      exact ⟨⟨hk.1, hlt⟩, hI⟩
    · rintro a w ⟨hlt, hk, hN, hF⟩
      obtain rfl : k = ls.length := by omega
      exact ⟨hN, hF.sub (by intro p hp; simp only [List.mem_append, List.mem_cons, List.mem_nil_iff, or_false] at hp ⊢; rcases hp with h | h | h | h | h | h | h <;> simp [h, orderE])⟩
  · intro a w hx
    have hk := hx.1
    exact (((wt24 n₀ w0 vr rs vp ps vx ls g8 f t g9 k).noX).post (fun a w q => ⟨n - 1, by omega, k + 1, by omega, q⟩)) a w hx
end Go.Proofs.Ytbidnbcclibigaa
