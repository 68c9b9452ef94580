/-
  The law LinesScored: the comparison; the walk from end to end. Condition: the library's table of powers of ten reads as it is laid.
-/
import Derived.Test.YtbidnbcclibigaaDoorLS
namespace Go.Proofs.YtbidnbcclibigaaDoor
open Go.RowKit Go.Bw
set_option maxRecDepth 100000 in
set_option maxHeartbeats 1000000 in
theorem ls10 (n₀ : Nat) (w0 : World) (vr : Value) (rs : List RuleL) (vp : Value) (ps : List ByteArray) (pl : ByteArray) (wk : Int) (vt : Value) (ts : List StatL) (g6 : Nat) (g7 : Nat) (v9 : Value) (w6 : World) (v13 : Value) : T3 Tryd.prog (fun a w => ((LU n₀ w0 vr rs vp ps pl wk vt ts g6 g7 v9 w6 [.int .i64 (pubN rs ps ⟨pl, wk, vt, ts⟩), .int .i64 (pubD rs ps ⟨pl, wk, vt, ts⟩)] w) ∧ Row w 0 2 v13 (partsQ rs ps ⟨pl, wk, vt, ts⟩).length (cellsOf encPr (partsQ rs ps ⟨pl, wk, vt, ts⟩))) ∧ Fr 93 [(4, vr), (5, vp), (6, .pointer (some ⟨g6, 0, none⟩)), (7, .pointer (some ⟨g7, 0, none⟩)), (8, .int .i64 (askedE rs ps [⟨pl, wk, vt, ts⟩])), (9, v9), (10, .int .i64 (askedE rs ps [⟨pl, wk, vt, ts⟩])), (11, .int .i64 (askedE rs ps [⟨pl, wk, vt, ts⟩])), (12, .pointer (some ⟨w6.heap.size, 0, none⟩)), (13, v13)] a) (sel [1, 1, 1, 1, 1, 1, 1, 1, 1, 0] lsB) (fun a w => (Below n₀ w0 w) ∧ Fr 93 [(2, .bool true)] a) No 9 No := by
  refine T3.leafN ?_
  rintro JS hS a w ⟨⟨hO, h13⟩, ⟨fr, rfl, q4, q5, q6, q7, q8, q9, q10, q11, q12, q13, _⟩⟩
  have hLT := hO.lt.below hO.b6
  have hD := hLT.drew
  have h7 := hO.n7.under hO.b6
  have l0 := hLT.line.2.1 0 _ rfl
  have l1 := hLT.line.2.1 1 _ rfl
  have l2 := hLT.line.2.1 2 _ rfl
  have m0 := h7.2.1 0 _ rfl
  have m1 := h7.2.1 1 _ rfl
  have n0 := hO.out.2.1 0 _ rfl
  have n1 := hO.out.2.1 1 _ rfl
  have h9 : Row w.drew 0 2 v9 (partsQ rs ps ⟨pl, wk, vt, ts⟩).length (cellsOf encPr (partsQ rs ps ⟨pl, wk, vt, ts⟩)) := (hO.r9.below hO.b6).below (below_drewN (Below.refl _ _) 1)
  replace h13 : Row w.drew 0 2 v13 (partsQ rs ps ⟨pl, wk, vt, ts⟩).length (cellsOf encPr (partsQ rs ps ⟨pl, wk, vt, ts⟩)) := h13.below (below_drewN (Below.refl _ _) 1)
  have hq5 : (partsQ rs ps ⟨pl, wk, vt, ts⟩).length ≤ 5 := by
    unfold partsQ
    split
    · exact Nat.le_trans (partsTo_length _ _ _ _) hD.r5
    · exact Nat.zero_le _
  have hbel := hLT.bel.trans ((below_drewN (Below.refl w.heap.size w) 1).mono hLT.hz)
  have hzz := hLT.hz
  clear hLT hO h7
  obtain ⟨p1, c1, hv1⟩ := hD.tr.shape
  subst hv1
  generalize pubN rs ps ⟨pl, wk, .slice p1 ts.length c1, ts⟩ = N at *
  generalize pubD rs ps ⟨pl, wk, .slice p1 ts.length c1, ts⟩ = DD at *
  generalize askedE rs ps [⟨pl, wk, .slice p1 ts.length c1, ts⟩] = EE at *
  generalize partsQ rs ps ⟨pl, wk, .slice p1 ts.length c1, ts⟩ = QQ at *
  generalize hRE : rulesE rs = RE at *
  have HRE := Lib.hid hRE
  clear hRE
  generalize w6.heap.size = g12 at *
  rw [fr_lsB, show fr 4 = _ from q4, show fr 5 = _ from q5, show fr 6 = _ from q6, show fr 7 = _ from q7, show fr 8 = _ from q8, show fr 9 = _ from q9, show fr 10 = _ from q10, show fr 11 = _ from q11, show fr 12 = _ from q12, show fr 13 = _ from q13]
  clear q4 q5 q6 q7 q8 q9 q10 q11 q12 q13
  conv => arg 2; whnf
  refine wp_region_mix (none) [(true, 0), (true, 2), (false, 1), (false, 3), (true, 4), (true, 5), (true, 6), (true, 8), (false, 7), (false, 9), (true, 10), (true, 11), (true, 12), (true, 13), (true, 14), (true, 15), (true, 16), (true, 17), (true, 18), (true, 19), (true, 20), (true, 21), (true, 22), (true, 23), (true, 24), (true, 25), (true, 26), (true, 27), (true, 28), (true, 29), (false, 30), (true, 31), (true, 32), (false, 33), (true, 34), (true, 35)] (by kernel_rfl) (by kernel_rfl) (by intro c a d v w h; cases d <;> exact h) ?_
  simp only [pickFlat, List.filterMap_cons, List.filterMap_nil, List.getElem?_cons_succ, List.getElem?_cons_zero, Option.map_some]
  have A0 := wof_at (w₁ := w.drew) (row := none) (a := ⟨g6, 0, none⟩) l0 (by simp)
  have A1 := wof_at (w₁ := w.drew) (row := none) (a := ⟨g6, 1, none⟩) l1 (by simp)
  have A2 := wof_at (w₁ := w.drew) (row := none) (a := ⟨g6, 2, none⟩) l2 (by simp)
  have M0 := wof_at (w₁ := w.drew) (row := none) (a := ⟨g7, 0, none⟩) m0 (by simp)
  have M1 := wof_at (w₁ := w.drew) (row := none) (a := ⟨g7, 1, none⟩) m1 (by simp)
  have N0 := wof_at (w₁ := w.drew) (row := none) (a := ⟨g12, 0, none⟩) n0 (by simp)
  have N1 := wof_at (w₁ := w.drew) (row := none) (a := ⟨g12, 1, none⟩) n1 (by simp)
  refine flat_hide (fun W hH hC hN hE => ?_)
  iterate 2 (refine hH.out _ _ _ _ (fun K hK => ?_); go_simp; refine hK _ ?_; clear hK K)
  refine hC.out _ _ _ _ (by first | rfl | go_simp) (fun K hK => ?_)
  simp only [bare]
  go_wp2_with fail
  refine (line_prog pl wk _ ts.length ts 0 w.drew hD.hp hD.tr hD.ht).mono ?_
  rintro e w1 ⟨rfl, hc1⟩
  have hD1 := hD.below hc1
  have hb1 := hc1
  go_wp2_with fail
  refine hK.out _ _ (grown_of_below hb1) ?_
  clear hK K
  refine hC.out _ _ _ _ (by first | rfl | go_simp) (fun K hK => ?_)
  simp only [bare]
  go_wp2_with fail
  refine (line_ref pl wk _ ts.length ts 0 w1 hD1.hp hD1.tr hD1.ht).mono ?_
  rintro e w2 ⟨rfl, hc2⟩
  have hD2 := hD1.below hc2
  have hb2 := hb1.trans (hc2.mono hb1.size)
  go_wp2_with fail
  refine hK.out _ _ (grown_of_below hb2) ?_
  clear hK K
  iterate 4 (refine hH.out _ _ _ _ (fun K hK => ?_); go_simp; refine hK _ ?_; clear hK K)
  refine hC.out _ _ _ _ (by first | rfl | go_simp) (fun K hK => ?_)
  simp only [bare]
  go_wp2_with fail
  refine (rules_prog vr rs.length rs 0 w2 hD2.rr hD2.ok).mono ?_
  rintro e w3 ⟨rfl, hc3⟩
  have hD3 := hD2.below hc3
  have hb3 := hb2.trans (hc3.mono hb2.size)
  go_wp2_with fail
  refine hK.out _ _ (grown_of_below hb3) ?_
  clear hK K
  refine hC.out _ _ _ _ (by first | rfl | go_simp) (fun K hK => ?_)
  simp only [bare]
  go_wp2_with fail
  refine (rules_ref vr rs.length rs 0 w3 hD3.rr hD3.ok).mono ?_
  rintro e w4 ⟨rfl, hc4⟩
  have hD4 := hD3.below hc4
  have hb4 := hb3.trans (hc4.mono hb3.size)
  go_wp2_with fail
  refine hK.out _ _ (grown_of_below hb4) ?_
  clear hK K
  iterate 20 (refine hH.out _ _ _ _ (fun K hK => ?_); go_simp; refine hK _ ?_; clear hK K)
  refine hC.out _ _ _ _ (by first | rfl | go_simp) (fun K hK => ?_)
  simp only [bare]
  go_wp2_with fail
  refine (equal_pairL v9 v13 _ QQ 0 0 w4 (h9.below hb4) (h13.below hb4) (by omega)).mono ?_
  rintro e w5 ⟨rfl, hc5⟩
  have hD5 := hD4.below hc5
  have hb5 := hb4.trans (hc5.mono hb4.size)
  go_wp2_with fail
  refine hK.out _ _ (grown_of_below hb5) ?_
  clear hK K
  iterate 2 (refine hH.out _ _ _ _ (fun K hK => ?_); go_simp; refine hK _ ?_; clear hK K)
  refine hC.out _ _ _ _ (by first | rfl | go_simp) (fun K hK => ?_)
  simp only [bare]
  go_wp2_with fail
  refine (scored_any w5).mono ?_
  rintro e w6 ⟨rfl, hc6⟩
  have hD6 := hD5.below hc6
  have hb6 := hb5.trans (hc6.mono hb5.size)
  go_wp2_with fail
  refine hK.out _ _ (grown_of_below hb6) ?_
  clear hK K
  iterate 2 (refine hH.out _ _ _ _ (fun K hK => ?_); go_simp; refine hK _ ?_; clear hK K)
  refine hE.out _ _ ?_
  clear hH hC hN hE W
  show JS _ _
  refine hS _ _ ?_
  exact ⟨hbel.trans (hb6.mono hzz), Fr.of _ rfl ⟨rfl, trivial⟩⟩

set_option maxRecDepth 100000 in
set_option maxHeartbeats 1000000 in
theorem lines_law (v : Value) (n : Nat) (zs : List Int) (w0 : World) (h : SRow w0 v n zs w0.heap.size) (htab : ∀ w, Below w0.heap.size w0 w → Tab w) :
    Calls Tryd.prog 3 #[v] w0 fun e w' => e = .returned (.bool true) ∧ Below w0.heap.size w0 w' := by
  have hall : T3 Tryd.prog (fun a w => w = w0 ∧ Fr 93 [(0, v)] a) lsB No No 9 (fun a w => Below w0.heap.size w0 w ∧ Fr 93 [(2, .bool true)] a) := by
    refine T3.seq (s := (sel [0] lsB)) (c := (sel [1] lsB)) (T3.noT (ls0 v w0)) ?_
    refine T3.seq (s := (sel [1, 0] lsB)) (c := (sel [1, 1] lsB)) (T3.noT (ls1 v n zs w0 h)) ?_
    refine T3.seq (s := (sel [1, 1, 0] lsB)) (c := (sel [1, 1, 1] lsB)) (T3.noT (ls2 _ w0 htab)) ?_
    refine T3.ex fun vr => T3.ex fun rs => T3.ex fun vp => T3.ex fun ps => T3.ex fun pl => T3.ex fun wk => T3.ex fun vt => T3.ex fun ts => T3.ex fun g6 => ?_
    refine T3.seq (s := (sel [1, 1, 1, 0] lsB)) (c := (sel [1, 1, 1, 1] lsB)) (T3.noT (ls3 _ w0 vr rs vp ps pl wk vt ts g6)) ?_
    refine T3.ex fun g7 => ?_
    refine T3.seq (s := (sel [1, 1, 1, 1, 0] lsB)) (c := (sel [1, 1, 1, 1, 1] lsB)) (T3.noT (ls4 _ w0 vr rs vp ps pl wk vt ts g6 g7)) ?_
    refine T3.ex fun v9 => ?_
    refine T3.seq (s := (sel [1, 1, 1, 1, 1, 0] lsB)) (c := (sel [1, 1, 1, 1, 1, 1] lsB)) (T3.noT (ls5 _ w0 vr rs vp ps pl wk vt ts g6 g7 v9)) ?_
    refine T3.seq (s := (sel [1, 1, 1, 1, 1, 1, 0] lsB)) (c := (sel [1, 1, 1, 1, 1, 1, 1] lsB)) (T3.noT (ls6 _ w0 vr rs vp ps pl wk vt ts g6 g7 v9)) ?_
    refine T3.ex fun w6 => ?_
    refine T3.seq (s := (sel [1, 1, 1, 1, 1, 1, 1, 0] lsB)) (c := (sel [1, 1, 1, 1, 1, 1, 1, 1] lsB)) (T3.noT (ls7 _ w0 vr rs vp ps pl wk vt ts g6 g7 v9 w6)) ?_
    refine T3.seq (s := (sel [1, 1, 1, 1, 1, 1, 1, 1, 0] lsB)) (c := (sel [1, 1, 1, 1, 1, 1, 1, 1, 1] lsB)) (S := fun a w => ∃ (v13 : Value), ((LU w0.heap.size w0 vr rs vp ps pl wk vt ts g6 g7 v9 w6 [.int .i64 (pubN rs ps ⟨pl, wk, vt, ts⟩), .int .i64 (pubD rs ps ⟨pl, wk, vt, ts⟩)] w) ∧ Row w 0 2 v13 (partsQ rs ps ⟨pl, wk, vt, ts⟩).length (cellsOf encPr (partsQ rs ps ⟨pl, wk, vt, ts⟩))) ∧ Fr 93 [(4, vr), (5, vp), (6, .pointer (some ⟨g6, 0, none⟩)), (7, .pointer (some ⟨g7, 0, none⟩)), (8, .int .i64 (askedE rs ps [⟨pl, wk, vt, ts⟩])), (9, v9), (10, .int .i64 (askedE rs ps [⟨pl, wk, vt, ts⟩])), (11, .int .i64 (askedE rs ps [⟨pl, wk, vt, ts⟩])), (12, .pointer (some ⟨w6.heap.size, 0, none⟩)), (13, v13)] a) ?_ (T3.ex fun v13 => ?_)
    · refine T3.noT (T3.test (s := (sel [1, 1, 1, 1, 1, 1, 1, 1, 0, 0] lsB)) (x := (sel [1, 1, 1, 1, 1, 1, 1, 1, 0, 1, 2] lsB)) (y := .skip) (C := fun q => (q = true ↔ askedE rs ps [⟨pl, wk, vt, ts⟩] = 0)) (W := fun w => LU w0.heap.size w0 vr rs vp ps pl wk vt ts g6 g7 v9 w6 [.int .i64 0, .int .i64 0] w) (by decide) (ls8 _ w0 vr rs vp ps pl wk vt ts g6 g7 v9 w6) (ls9 _ w0 vr rs vp ps pl wk vt ts g6 g7 v9 w6) (T3.skip ?_))
      rintro a w ⟨hq, hO, hF⟩
      have hne : askedE rs ps [⟨pl, wk, vt, ts⟩] ≠ 0 := fun h => by have := hq.2 h; cases this
      have e1 : pubN rs ps ⟨pl, wk, vt, ts⟩ = 0 := by unfold pubN; rw [if_neg hne]
      have e2 : pubD rs ps ⟨pl, wk, vt, ts⟩ = 0 := by unfold pubD; rw [if_neg hne]
      have e3 : partsQ rs ps ⟨pl, wk, vt, ts⟩ = [] := by unfold partsQ; rw [if_neg hne]
      refine ⟨_, ⟨?_, ?_⟩, hF⟩
      · rw [e1, e2]; exact hO
      · rw [e3]; exact ⟨rfl, .inl ⟨rfl, rfl⟩⟩
    refine T3.seq (s := (sel [1, 1, 1, 1, 1, 1, 1, 1, 1, 0] lsB)) (c := (sel [1, 1, 1, 1, 1, 1, 1, 1, 1, 1] lsB)) (T3.noT (ls10 _ w0 vr rs vp ps pl wk vt ts g6 g7 v9 w6 v13)) ?_
    exact T3.ret (fun a w q => q)
  go_enter Tryd.func3, Tryd.ntmps3
  refine T3.done (s := lsB) hall ⟨rfl, Fr.of _ rfl ⟨rfl, trivial⟩⟩ ?_
  rintro a w ⟨hb, fr, rfl, q2, _⟩
  rw [fr_lsB, show fr 2 = _ from q2]
  go_ret
  exact ⟨rfl, hb⟩
end Go.Proofs.YtbidnbcclibigaaDoor
