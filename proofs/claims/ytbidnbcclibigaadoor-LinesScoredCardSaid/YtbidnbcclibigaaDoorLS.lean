/-
  The law LinesScored: its walk from end to end. Condition: the library's table of powers of ten reads as it is laid.
-/
import Derived.Test.YtbidnbcclibigaaDoorRules
import Derived.Test.YtbidnbcclibigaaDoorScored
import Derived.Test.YtbidnbcclibigaaDoorErrs
import Derived.Test.YtbidnbcclibigaaDoorEqualP
namespace Go.Proofs.YtbidnbcclibigaaDoor
open Go.RowKit Go.Bw
noncomputable def lsB : Code := (Tryd.f3.body).getD .skip
set_option maxRecDepth 100000 in
theorem fr_lsB (f : Nat → Value) : frame 93 f = ⟨#[f 0, f 1, f 2, f 3, f 4, f 5, f 6, f 7, f 8, f 9, f 10, f 11, f 12, f 13, f 14, f 15, f 16, f 17, f 18, f 19, f 20, f 21, f 22, f 23, f 24, f 25, f 26, f 27, f 28, f 29, f 30, f 31, f 32, f 33, f 34, f 35, f 36, f 37, f 38, f 39, f 40, f 41, f 42, f 43, f 44, f 45, f 46, f 47, f 48, f 49, f 50, f 51, f 52, f 53, f 54, f 55, f 56, f 57, f 58, f 59, f 60, f 61, f 62, f 63, f 64, f 65, f 66, f 67, f 68, f 69, f 70, f 71, f 72, f 73, f 74, f 75, f 76, f 77, f 78, f 79, f 80, f 81, f 82, f 83, f 84, f 85, f 86, f 87, f 88, f 89, f 90, f 91, f 92], []⟩ := by rfl
theorem str_new (w : World) (v : Value) (n : Nat) (zs : List Int) (e : TypeId) (h : SRow w v n zs w.heap.size) : Str w.heap.size (w.alloc (.cells #[v, .int .i64 0] e)) 0 := by
  refine ⟨v, n, zs, 0, ?_, ?_, ?_, by omega, by simp, h.swap (fun k hk => (World.grownBy_alloc w _ none).block k hk (by simp)) (by simp)⟩
  · rw [World.cell?_alloc_at _ _ _ _ rfl]; rfl
  · rw [World.cell?_alloc_at _ _ _ _ rfl]; rfl
  · exact frozen_new0 w #[v, .int .i64 0] e 1
theorem asked_errL (rs : List RuleL) (ps : List ByteArray) (x : LineL) : errL [rulesE rs, listE ps, lineL x] = askedE rs ps [x] := by
  have h1 : linesE [x] = lineL x := by
    unfold linesE firstErr
    by_cases hx : lineL x = 0
    · simp [geta, hx, List.find?]
    · simp [geta, hx, List.find?]
  unfold askedE errL errL errL errL
  rw [h1]
  by_cases a : rulesE rs = 0 <;> by_cases b : listE ps = 0 <;> by_cases c : lineL x = 0 <;> simp [a, b, c]
/-- The data of the law. -/
structure LT (n₀ : Nat) (w0 : World) (vr : Value) (rs : List RuleL) (vp : Value) (ps : List ByteArray) (pl : ByteArray) (wk : Int) (vt : Value) (ts : List StatL) (g6 : Nat) (w : World) : Prop where
  bel : Below n₀ w0 w
  rr : Row w 0 7 vr rs.length (cellsOf encR rs)
  pp : Row w 0 1 vp ps.length (cellsOf encS ps)
  tr : Row w 0 2 vt ts.length (cellsOf encT ts)
  line : Blk w g6 [.string pl, .int .i64 wk, vt]
  ok : ∀ r ∈ rs, RuleOk r
  r5 : rs.length ≤ 5
  pok : ∀ s ∈ ps, s.size ≤ 9223372036854775807
  hp : pl.size ≤ 9223372036854775807
  ht : ∀ t ∈ ts, t.name.size ≤ 9223372036854775807
  hz : n₀ ≤ w.heap.size
  tab : Tab w
section
variable {n₀ : Nat} {w0 w w' : World} {vr : Value} {rs : List RuleL} {vp : Value} {ps : List ByteArray} {pl : ByteArray} {wk : Int} {vt : Value} {ts : List StatL} {g6 : Nat}
theorem LT.below (h : LT n₀ w0 vr rs vp ps pl wk vt ts g6 w) (b : Below w.heap.size w w') : LT n₀ w0 vr rs vp ps pl wk vt ts g6 w' :=
  ⟨h.bel.trans (b.mono h.hz), h.rr.below b, h.pp.below b, h.tr.below b, h.line.under b, h.ok, h.r5, h.pok, h.hp, h.ht, Nat.le_trans h.hz b.size, h.tab.below b⟩
theorem LT.alloc (h : LT n₀ w0 vr rs vp ps pl wk vt ts g6 w) (o : Obj) : LT n₀ w0 vr rs vp ps pl wk vt ts g6 (w.alloc o) := h.below ((Below.refl _ _).alloc (Nat.le_refl _) o)
theorem LT.drew (h : LT n₀ w0 vr rs vp ps pl wk vt ts g6 w) : LT n₀ w0 vr rs vp ps pl wk vt ts g6 w.drew := h.below (below_drewN (Below.refl _ _) 1)
theorem LT.pq (h : LT n₀ w0 vr rs vp ps pl wk vt ts g6 w) : PqH w vr vp vt rs ps ts pl := ⟨h.ok, h.pok, h.hp, h.ht, h.rr, h.pp, h.tr, h.tab⟩
end
set_option maxRecDepth 100000 in
set_option maxHeartbeats 1000000 in
theorem ls0 (v : Value) (w0 : World) : T3 Tryd.prog (fun a w => (w = w0) ∧ Fr 93 [(0, v)] a) (sel [0] lsB) (fun a w => (w = w0) ∧ Fr 93 [(0, v)] a) No 9 No := by
  refine T3.leaf ?_
  rintro Q JS JX JT K hS hK hX hE hT hR a w ⟨hw, ⟨fr, rfl, q0, _⟩⟩
  subst hw
  rw [fr_lsB, show fr 0 = _ from q0]
  clear q0
  conv => arg 2; whnf
  go_wp2_with fail
  refine Met.intro (hS _ _ ?_)
  exact ⟨rfl, Fr.of _ rfl ⟨rfl, trivial⟩⟩

set_option maxRecDepth 100000 in
set_option maxHeartbeats 1000000 in
theorem ls1 (v : Value) (n : Nat) (zs : List Int) (w0 : World) (h : SRow w0 v n zs w0.heap.size) : T3 Tryd.prog (fun a w => (w = w0) ∧ Fr 93 [(0, v)] a) (sel [1, 0] lsB) (fun a w => (Str w0.heap.size w 0 ∧ Below w0.heap.size w0 w ∧ w0.heap.size + 1 ≤ w.heap.size) ∧ Fr 93 [(3, .pointer (some ⟨w0.heap.size, 0, none⟩))] a) No 9 No := by
  refine T3.leaf ?_
  rintro Q JS JX JT K hS hK hX hE hT hR a w ⟨hw, ⟨fr, rfl, q0, _⟩⟩
  subst hw
  have hS0 := str_new w v n zs 25 h
  obtain ⟨p, c, rfl⟩ : ∃ a c, v = .slice a n c := by
    rcases h with ⟨rfl, a, c, rfl⟩ | ⟨h, _⟩
    · exact ⟨_, _, rfl⟩
    · rcases h.2 with ⟨rfl, rfl⟩ | ⟨b, off, cap, rfl, _⟩
      · exact ⟨_, _, rfl⟩
      · exact ⟨_, _, rfl⟩
  clear h
  rw [fr_lsB, show fr 0 = _ from q0]
  clear q0
  conv => arg 2; whnf
  go_wp2_with fail
  refine Met.intro (hS _ _ ?_)
  exact ⟨⟨hS0, (Below.refl _ _).alloc (Nat.le_refl _) _, by simp⟩, Fr.of _ rfl ⟨rfl, trivial⟩⟩

set_option maxRecDepth 100000 in
set_option maxHeartbeats 1000000 in
theorem ls2 (n₀ : Nat) (w0 : World) (htab : ∀ w, Below n₀ w0 w → Tab w) : T3 Tryd.prog (fun a w => (Str n₀ w 0 ∧ Below n₀ w0 w ∧ n₀ + 1 ≤ w.heap.size) ∧ Fr 93 [(3, .pointer (some ⟨n₀, 0, none⟩))] a) (sel [1, 1, 0] lsB) (fun a w => ∃ (vr : Value) (rs : List RuleL) (vp : Value) (ps : List ByteArray) (pl : ByteArray) (wk : Int) (vt : Value) (ts : List StatL) (g6 : Nat), (LT n₀ w0 vr rs vp ps pl wk vt ts g6 w) ∧ Fr 93 [(4, vr), (5, vp), (6, .pointer (some ⟨g6, 0, none⟩))] a) No 9 No := by
  refine T3.leaf ?_
  rintro Q JS JX JT K hS hK hX hE hT hR a w ⟨⟨hS_, hbel, hz⟩, ⟨fr, rfl, q3, _⟩⟩
  rw [fr_lsB, show fr 3 = _ from q3]
  clear q3
  conv => arg 2; whnf
  go_wp2_with fail
  refine (rules_any n₀ 0 _ hS_ (by decide)).mono ?_
  rintro e w1 ⟨vr, rs, rfl, hr5, hrok, hrr, hd⟩
  have hs1 := hd.size
  replace hbel := below_str hbel hd.gr (Nat.le_refl _) (by omega)
  replace hrr := owns_mono hrr hz
  replace hS_ := hd.str
  clear hd
  go_wp2_with fail
  refine (positions_any n₀ 60 _ (by simpa using hS_) (by decide)).mono ?_
  rintro e w2 ⟨vp, ps, rfl, hp5, hpok, hpp, hd⟩
  have hs2 := hd.size
  replace hbel := below_str hbel hd.gr (Nat.le_refl _) (by omega)
  replace hrr := owns_drawn hrr hd (by omega)
  replace hpp := owns_mono hpp (Nat.le_trans hz hs1)
  replace hS_ := hd.str
  clear hd
  go_wp2_with fail
  refine (range_d n₀ 67 1 4 _ (by simpa using hS_) rfl (by decide)).mono ?_
  rintro e w3 ⟨m, rfl, hm, hd⟩
  have hs3 := hd.size
  replace hbel := below_str hbel hd.gr (Nat.le_refl _) (by omega)
  replace hrr := owns_drawn hrr hd (by omega)
  replace hpp := owns_drawn hpp hd (by omega)
  replace hS_ := hd.str
  clear hd
  go_wp2_with fail
  refine (aline_any n₀ _ _ _ hS_ (by omega)).mono ?_
  rintro e w4 ⟨pl, wk, vt, ts, rfl, hso, hs5, hsm, hpm, hd⟩
  have hs4 := hd.size
  replace hbel := below_str hbel hd.gr (Nat.le_refl _) (by omega)
  replace hrr := owns_drawn hrr hd (by omega)
  replace hpp := owns_drawn hpp hd (by omega)
  clear hd hS_
  obtain ⟨p4, c4, hv4⟩ := (Row.of_owns hso).shape
  subst hv4
  go_wp2_with fail
  have hb5 := (Below.refl w4.heap.size w4).alloc (Nat.le_refl _) (.cells #[.string pl, .int .i64 wk, .slice p4 ts.length c4] 32)
  have hbel5 := hbel.trans (hb5.mono (by omega))
  refine Met.intro (hS _ _ ?_)
  exact ⟨vr, rs, vp, ps, pl, wk, _, ts, w4.heap.size, ⟨hbel5, ((Row.of_owns hrr).mono (Nat.zero_le _)).below hb5, ((Row.of_owns hpp).mono (Nat.zero_le _)).below hb5, ((Row.of_owns hso).mono (Nat.zero_le _)).below hb5, Blk.new w4 #[.string pl, .int .i64 wk, .slice p4 ts.length c4] _, hrok, hr5, fun s hs => (hpok s hs).le, hpm.le, fun t ht => (hsm t ht).le, by simp; omega, htab _ hbel5⟩, Fr.of _ rfl ⟨rfl, rfl, rfl, trivial⟩⟩

set_option maxRecDepth 100000 in
set_option maxHeartbeats 1000000 in
theorem ls3 (n₀ : Nat) (w0 : World) (vr : Value) (rs : List RuleL) (vp : Value) (ps : List ByteArray) (pl : ByteArray) (wk : Int) (vt : Value) (ts : List StatL) (g6 : Nat) : T3 Tryd.prog (fun a w => (LT n₀ w0 vr rs vp ps pl wk vt ts g6 w) ∧ Fr 93 [(4, vr), (5, vp), (6, .pointer (some ⟨g6, 0, none⟩))] a) (sel [1, 1, 1, 0] lsB) (fun a w => ∃ (g7 : Nat), (LT n₀ w0 vr rs vp ps pl wk vt ts g6 w ∧ Blk w g7 [.int .i64 (pubN rs ps ⟨pl, wk, vt, ts⟩), .int .i64 (pubD rs ps ⟨pl, wk, vt, ts⟩)]) ∧ Fr 93 [(4, vr), (5, vp), (6, .pointer (some ⟨g6, 0, none⟩)), (7, .pointer (some ⟨g7, 0, none⟩)), (8, .int .i64 (askedE rs ps [⟨pl, wk, vt, ts⟩]))] a) No 9 No := by
  refine T3.leaf ?_
  rintro Q JS JX JT K hS hK hX hE hT hR a w ⟨hT_, ⟨fr, rfl, q4, q5, q6, _⟩⟩
  have l0 := hT_.line.2.1 0 _ rfl
  have l1 := hT_.line.2.1 1 _ rfl
  have l2 := hT_.line.2.1 2 _ rfl
  have HP := Lib.hid (pub_any w vr vp rs ps ⟨pl, wk, vt, ts⟩ hT_.ok hT_.pok ⟨hT_.hp, hT_.ht⟩ hT_.rr hT_.pp hT_.tr)
  obtain ⟨p1, c1, hv1⟩ := hT_.tr.shape
  subst hv1
  generalize hN : pubN rs ps ⟨pl, wk, .slice p1 ts.length c1, ts⟩ = N at *
  generalize hDD : pubD rs ps ⟨pl, wk, .slice p1 ts.length c1, ts⟩ = DD at *
  generalize hEE : askedE rs ps [⟨pl, wk, .slice p1 ts.length c1, ts⟩] = EE at *
  have HN := Lib.hid hN
  have HD := Lib.hid hDD
  have HE := Lib.hid hEE
  clear hN hDD hEE
  rw [fr_lsB, show fr 4 = _ from q4, show fr 5 = _ from q5, show fr 6 = _ from q6]
  clear q4 q5 q6
  conv => arg 2; whnf
  go_wp2_with fail
  refine HP.out.mono ?_
  rintro e w1 ⟨rfl, hb⟩
  replace hT_ := hT_.below hb
  clear hb l0 l1 l2 HP
  go_wp2_with fail
  refine Met.intro (hS _ _ ?_)
  exact ⟨w1.heap.size, ⟨hT_.alloc _, Blk.new w1 #[.int .i64 N, .int .i64 DD] _⟩, Fr.of _ rfl ⟨rfl, rfl, rfl, rfl, rfl, trivial⟩⟩

set_option maxRecDepth 100000 in
set_option maxHeartbeats 1000000 in
theorem ls4 (n₀ : Nat) (w0 : World) (vr : Value) (rs : List RuleL) (vp : Value) (ps : List ByteArray) (pl : ByteArray) (wk : Int) (vt : Value) (ts : List StatL) (g6 : Nat) (g7 : Nat) : T3 Tryd.prog (fun a w => (LT n₀ w0 vr rs vp ps pl wk vt ts g6 w ∧ Blk w g7 [.int .i64 (pubN rs ps ⟨pl, wk, vt, ts⟩), .int .i64 (pubD rs ps ⟨pl, wk, vt, ts⟩)]) ∧ Fr 93 [(4, vr), (5, vp), (6, .pointer (some ⟨g6, 0, none⟩)), (7, .pointer (some ⟨g7, 0, none⟩)), (8, .int .i64 (askedE rs ps [⟨pl, wk, vt, ts⟩]))] a) (sel [1, 1, 1, 1, 0] lsB) (fun a w => ∃ (v9 : Value), ((LT n₀ w0 vr rs vp ps pl wk vt ts g6 w ∧ Blk w g7 [.int .i64 (pubN rs ps ⟨pl, wk, vt, ts⟩), .int .i64 (pubD rs ps ⟨pl, wk, vt, ts⟩)]) ∧ Row w 0 2 v9 (partsQ rs ps ⟨pl, wk, vt, ts⟩).length (cellsOf encPr (partsQ rs ps ⟨pl, wk, vt, ts⟩))) ∧ Fr 93 [(4, vr), (5, vp), (6, .pointer (some ⟨g6, 0, none⟩)), (7, .pointer (some ⟨g7, 0, none⟩)), (8, .int .i64 (askedE rs ps [⟨pl, wk, vt, ts⟩])), (9, v9), (10, .int .i64 (askedE rs ps [⟨pl, wk, vt, ts⟩]))] a) No 9 No := by
  refine T3.leaf ?_
  rintro Q JS JX JT K hS hK hX hE hT hR a w ⟨⟨hT_, h7⟩, ⟨fr, rfl, q4, q5, q6, q7, q8, _⟩⟩
  have l0 := hT_.line.2.1 0 _ rfl
  have l1 := hT_.line.2.1 1 _ rfl
  have l2 := hT_.line.2.1 2 _ rfl
  have HP := Lib.hid (parts_prog w vr vp vt rs ps ts pl wk hT_.pq)
  obtain ⟨p1, c1, hv1⟩ := hT_.tr.shape
  subst hv1
  generalize hQQ : partsQ rs ps ⟨pl, wk, .slice p1 ts.length c1, ts⟩ = QQ at *
  generalize hEE : askedE rs ps [⟨pl, wk, .slice p1 ts.length c1, ts⟩] = EE at *
  have HQ := Lib.hid hQQ
  have HE := Lib.hid hEE
  clear hQQ hEE
  rw [fr_lsB, show fr 4 = _ from q4, show fr 5 = _ from q5, show fr 6 = _ from q6, show fr 7 = _ from q7, show fr 8 = _ from q8]
  clear q4 q5 q6 q7 q8
  conv => arg 2; whnf
  go_wp2_with fail
  refine HP.out.mono ?_
  rintro e w1 ⟨v9, rfl, hown, hb⟩
  replace hT_ := hT_.below (hb.mono (Nat.le_refl _))
  replace h7 := h7.under hb
  obtain ⟨p9, c9, hv9⟩ := (Row.of_owns hown).shape
  subst hv9
  clear hb l0 l1 l2 HP
  go_wp2_with fail
  refine Met.intro (hS _ _ ?_)
  exact ⟨_, ⟨⟨hT_, h7⟩, (Row.of_owns hown).mono (Nat.zero_le _)⟩, Fr.of _ rfl ⟨rfl, rfl, rfl, rfl, rfl, rfl, rfl, trivial⟩⟩

set_option maxRecDepth 100000 in
set_option maxHeartbeats 1000000 in
theorem ls5 (n₀ : Nat) (w0 : World) (vr : Value) (rs : List RuleL) (vp : Value) (ps : List ByteArray) (pl : ByteArray) (wk : Int) (vt : Value) (ts : List StatL) (g6 : Nat) (g7 : Nat) (v9 : Value) : T3 Tryd.prog (fun a w => ((LT n₀ w0 vr rs vp ps pl wk vt ts g6 w ∧ Blk w g7 [.int .i64 (pubN rs ps ⟨pl, wk, vt, ts⟩), .int .i64 (pubD rs ps ⟨pl, wk, vt, ts⟩)]) ∧ Row w 0 2 v9 (partsQ rs ps ⟨pl, wk, vt, ts⟩).length (cellsOf encPr (partsQ rs ps ⟨pl, wk, vt, ts⟩))) ∧ Fr 93 [(4, vr), (5, vp), (6, .pointer (some ⟨g6, 0, none⟩)), (7, .pointer (some ⟨g7, 0, none⟩)), (8, .int .i64 (askedE rs ps [⟨pl, wk, vt, ts⟩])), (9, v9), (10, .int .i64 (askedE rs ps [⟨pl, wk, vt, ts⟩]))] a) (sel [1, 1, 1, 1, 1, 0] lsB) (fun a w => ((LT n₀ w0 vr rs vp ps pl wk vt ts g6 w ∧ Blk w g7 [.int .i64 (pubN rs ps ⟨pl, wk, vt, ts⟩), .int .i64 (pubD rs ps ⟨pl, wk, vt, ts⟩)]) ∧ Row w 0 2 v9 (partsQ rs ps ⟨pl, wk, vt, ts⟩).length (cellsOf encPr (partsQ rs ps ⟨pl, wk, vt, ts⟩))) ∧ Fr 93 [(4, vr), (5, vp), (6, .pointer (some ⟨g6, 0, none⟩)), (7, .pointer (some ⟨g7, 0, none⟩)), (8, .int .i64 (askedE rs ps [⟨pl, wk, vt, ts⟩])), (9, v9), (10, .int .i64 (askedE rs ps [⟨pl, wk, vt, ts⟩])), (11, .int .i64 (askedE rs ps [⟨pl, wk, vt, ts⟩]))] a) No 9 No := by
  refine T3.leafN ?_
  rintro JS hS a w ⟨⟨⟨hT_, h7⟩, h9⟩, ⟨fr, rfl, q4, q5, q6, q7, q8, q9, q10, _⟩⟩
  have l0 := hT_.line.2.1 0 _ rfl
  have l1 := hT_.line.2.1 1 _ rfl
  have l2 := hT_.line.2.1 2 _ rfl
  have Hs := Lib.hid (asked_errL rs ps ⟨pl, wk, vt, ts⟩)
  have hD := hT_.drew
  obtain ⟨p1, c1, hv1⟩ := hT_.tr.shape
  subst hv1
  generalize hQQ : partsQ rs ps ⟨pl, wk, .slice p1 ts.length c1, ts⟩ = QQ at *
  have HQ := Lib.hid hQQ
  clear hQQ
  rw [fr_lsB, show fr 4 = _ from q4, show fr 5 = _ from q5, show fr 6 = _ from q6, show fr 7 = _ from q7, show fr 8 = _ from q8, show fr 9 = _ from q9, show fr 10 = _ from q10]
  clear q4 q5 q6 q7 q8 q9 q10
  conv => arg 2; whnf
  refine wp_region_mix (none) [(true, 0), (true, 2), (true, 4), (false, 1), (false, 3), (false, 5), (false, 6), (false, 7), (true, 8)] (by kernel_rfl) (by kernel_rfl) (by intro c a d v w h; cases d <;> exact h) ?_
  simp only [pickFlat, List.filterMap_cons, List.filterMap_nil, List.getElem?_cons_succ, List.getElem?_cons_zero, Option.map_some]
  have A0 := wof_at (w₁ := w.drew) (row := none) (a := ⟨g6, 0, none⟩) l0 (by simp)
  have A1 := wof_at (w₁ := w.drew) (row := none) (a := ⟨g6, 1, none⟩) l1 (by simp)
  have A2 := wof_at (w₁ := w.drew) (row := none) (a := ⟨g6, 2, none⟩) l2 (by simp)
  refine flat_hide (fun W hH hC hN hE => ?_)
  iterate 3 (refine hH.out _ _ _ _ (fun K hK => ?_); go_simp; refine hK _ ?_; clear hK K)
  refine hC.out _ _ _ _ (by first | rfl | go_simp) (fun K hK => ?_)
  simp only [bare]
  go_wp2_with fail
  refine (rules_ref vr rs.length rs 0 w.drew hD.rr hD.ok).mono ?_
  rintro e w1 ⟨rfl, hb1⟩
  have hD1 := hD.below hb1
  go_wp2_with fail
  refine hK.out _ _ (grown_of_below hb1) ?_
  clear hK K
  refine hC.out _ _ _ _ (by first | rfl | go_simp) (fun K hK => ?_)
  simp only [bare]
  go_wp2_with fail
  refine (listFault_ref vp ps.length ps 0 w1 hD1.pp hD1.pok).mono ?_
  rintro e w2 ⟨rfl, hb2⟩
  have hD2 := hD1.below hb2
  have hb12 := hb1.trans (hb2.mono hb1.size)
  go_wp2_with fail
  refine hK.out _ _ (grown_of_below hb12) ?_
  clear hK K
  refine hC.out _ _ _ _ (by first | rfl | go_simp) (fun K hK => ?_)
  simp only [bare]
  go_wp2_with fail
  refine (line_ref pl wk _ ts.length ts 0 w2 hD2.hp hD2.tr hD2.ht).mono ?_
  rintro e w3 ⟨rfl, hb3⟩
  have hD3 := hD2.below hb3
  have hb123 := hb12.trans (hb3.mono hb12.size)
  go_wp2_with fail
  refine hK.out _ _ (grown_of_below hb123) ?_
  clear hK K
  refine hC.out _ _ _ _ (by first | rfl | go_simp) (fun K hK => ?_)
  simp only [bare]
  go_wp2_with fail
  refine hK.out _ _ (grown_of_below (hb123.trans (((Below.refl w3.heap.size w3).alloc (Nat.le_refl _) _).mono hb123.size))) ?_
  clear hK K
  refine hC.out _ _ _ _ (by first | rfl | go_simp) (fun K hK => ?_)
  simp only [bare]
  go_wp2_with fail
  refine (errs_lit [rulesE rs, listE ps, lineE pl wk ts] 3 _ _ w3 rfl rfl (by decide)).mono ?_
  rintro e w4 ⟨rfl, hb4⟩
  have hD4 := hD3.below hb4
  have hb1234 := hb123.trans (hb4.mono hb123.size)
  go_wp2_with fail
  refine hK.out _ _ (grown_of_below hb1234) ?_
  clear hK K
  iterate 1 (refine hH.out _ _ _ _ (fun K hK => ?_); go_simp; refine hK _ ?_; clear hK K)
  refine hE.out _ _ ?_
  clear hH hC hN hE W
  show JS _ _
  refine hS _ _ ?_
  refine ⟨⟨⟨hD4, (h7.under (below_drewN (Below.refl _ _) 1)).under hb1234⟩, (h9.below (below_drewN (Below.refl _ _) 1)).below hb1234⟩, Fr.of _ rfl ⟨rfl, rfl, rfl, rfl, rfl, rfl, rfl, ?_, trivial⟩⟩
  exact congrArg _ Hs.out

/-- A block behind all that there is, beside what holds before it. -/
structure LU (n₀ : Nat) (w0 : World) (vr : Value) (rs : List RuleL) (vp : Value) (ps : List ByteArray) (pl : ByteArray) (wk : Int) (vt : Value) (ts : List StatL) (g6 g7 : Nat) (v9 : Value) (w6 : World) (cs : List Value) (w : World) : Prop where
  lt : LT n₀ w0 vr rs vp ps pl wk vt ts g6 w6
  n7 : Blk w6 g7 [.int .i64 (pubN rs ps ⟨pl, wk, vt, ts⟩), .int .i64 (pubD rs ps ⟨pl, wk, vt, ts⟩)]
  r9 : Row w6 0 2 v9 (partsQ rs ps ⟨pl, wk, vt, ts⟩).length (cellsOf encPr (partsQ rs ps ⟨pl, wk, vt, ts⟩))
  b6 : Below w6.heap.size w6 w
  out : Blk w w6.heap.size cs
set_option maxRecDepth 100000 in
set_option maxHeartbeats 1000000 in
theorem ls6 (n₀ : Nat) (w0 : World) (vr : Value) (rs : List RuleL) (vp : Value) (ps : List ByteArray) (pl : ByteArray) (wk : Int) (vt : Value) (ts : List StatL) (g6 : Nat) (g7 : Nat) (v9 : Value) : T3 Tryd.prog (fun a w => ((LT n₀ w0 vr rs vp ps pl wk vt ts g6 w ∧ Blk w g7 [.int .i64 (pubN rs ps ⟨pl, wk, vt, ts⟩), .int .i64 (pubD rs ps ⟨pl, wk, vt, ts⟩)]) ∧ Row w 0 2 v9 (partsQ rs ps ⟨pl, wk, vt, ts⟩).length (cellsOf encPr (partsQ rs ps ⟨pl, wk, vt, ts⟩))) ∧ Fr 93 [(4, vr), (5, vp), (6, .pointer (some ⟨g6, 0, none⟩)), (7, .pointer (some ⟨g7, 0, none⟩)), (8, .int .i64 (askedE rs ps [⟨pl, wk, vt, ts⟩])), (9, v9), (10, .int .i64 (askedE rs ps [⟨pl, wk, vt, ts⟩])), (11, .int .i64 (askedE rs ps [⟨pl, wk, vt, ts⟩]))] a) (sel [1, 1, 1, 1, 1, 1, 0] lsB) (fun a w => ∃ (w6 : World), (LU n₀ w0 vr rs vp ps pl wk vt ts g6 g7 v9 w6 [.int .i64 0, .int .i64 0] w) ∧ Fr 93 [(4, vr), (5, vp), (6, .pointer (some ⟨g6, 0, none⟩)), (7, .pointer (some ⟨g7, 0, none⟩)), (8, .int .i64 (askedE rs ps [⟨pl, wk, vt, ts⟩])), (9, v9), (10, .int .i64 (askedE rs ps [⟨pl, wk, vt, ts⟩])), (11, .int .i64 (askedE rs ps [⟨pl, wk, vt, ts⟩])), (12, .pointer (some ⟨w6.heap.size, 0, none⟩))] a) No 9 No := by
  refine T3.leaf ?_
  rintro Q JS JX JT K hS hK hX hE hT hR a w ⟨⟨⟨hT_, h7⟩, h9⟩, ⟨fr, rfl, q4, q5, q6, q7, q8, q9, q10, q11, _⟩⟩
  rw [fr_lsB, show fr 4 = _ from q4, show fr 5 = _ from q5, show fr 6 = _ from q6, show fr 7 = _ from q7, show fr 8 = _ from q8, show fr 9 = _ from q9, show fr 10 = _ from q10, show fr 11 = _ from q11]
  clear q4 q5 q6 q7 q8 q9 q10 q11
  conv => arg 2; whnf
  go_wp2_with fail
  refine Met.intro (hS _ _ ?_)
  exact ⟨w, ⟨hT_, h7, h9, (Below.refl _ _).alloc (Nat.le_refl _) _, Blk.new w #[.int .i64 0, .int .i64 0] _⟩, Fr.of _ rfl ⟨rfl, rfl, rfl, rfl, rfl, rfl, rfl, rfl, rfl, trivial⟩⟩

set_option maxRecDepth 100000 in
set_option maxHeartbeats 1000000 in
theorem ls7 (n₀ : Nat) (w0 : World) (vr : Value) (rs : List RuleL) (vp : Value) (ps : List ByteArray) (pl : ByteArray) (wk : Int) (vt : Value) (ts : List StatL) (g6 : Nat) (g7 : Nat) (v9 : Value) (w6 : World) : T3 Tryd.prog (fun a w => (LU n₀ w0 vr rs vp ps pl wk vt ts g6 g7 v9 w6 [.int .i64 0, .int .i64 0] w) ∧ Fr 93 [(4, vr), (5, vp), (6, .pointer (some ⟨g6, 0, none⟩)), (7, .pointer (some ⟨g7, 0, none⟩)), (8, .int .i64 (askedE rs ps [⟨pl, wk, vt, ts⟩])), (9, v9), (10, .int .i64 (askedE rs ps [⟨pl, wk, vt, ts⟩])), (11, .int .i64 (askedE rs ps [⟨pl, wk, vt, ts⟩])), (12, .pointer (some ⟨w6.heap.size, 0, none⟩))] a) (sel [1, 1, 1, 1, 1, 1, 1, 0] lsB) (fun a w => (LU n₀ w0 vr rs vp ps pl wk vt ts g6 g7 v9 w6 [.int .i64 0, .int .i64 0] w) ∧ Fr 93 [(4, vr), (5, vp), (6, .pointer (some ⟨g6, 0, none⟩)), (7, .pointer (some ⟨g7, 0, none⟩)), (8, .int .i64 (askedE rs ps [⟨pl, wk, vt, ts⟩])), (9, v9), (10, .int .i64 (askedE rs ps [⟨pl, wk, vt, ts⟩])), (11, .int .i64 (askedE rs ps [⟨pl, wk, vt, ts⟩])), (12, .pointer (some ⟨w6.heap.size, 0, none⟩)), (13, .slice none 0 0)] a) No 9 No := by
  refine T3.leaf ?_
  rintro Q JS JX JT K hS hK hX hE hT hR a w ⟨hU, ⟨fr, rfl, q4, q5, q6, q7, q8, q9, q10, q11, q12, _⟩⟩
  rw [fr_lsB, show fr 4 = _ from q4, show fr 5 = _ from q5, show fr 6 = _ from q6, show fr 7 = _ from q7, show fr 8 = _ from q8, show fr 9 = _ from q9, show fr 10 = _ from q10, show fr 11 = _ from q11, show fr 12 = _ from q12]
  clear q4 q5 q6 q7 q8 q9 q10 q11 q12
  conv => arg 2; whnf
  go_wp2_with fail
  refine Met.intro (hS _ _ ?_)
  exact ⟨hU, Fr.of _ rfl ⟨rfl, rfl, rfl, rfl, rfl, rfl, rfl, rfl, rfl, rfl, trivial⟩⟩

set_option maxRecDepth 100000 in
set_option maxHeartbeats 1000000 in
theorem ls8 (n₀ : Nat) (w0 : World) (vr : Value) (rs : List RuleL) (vp : Value) (ps : List ByteArray) (pl : ByteArray) (wk : Int) (vt : Value) (ts : List StatL) (g6 : Nat) (g7 : Nat) (v9 : Value) (w6 : World) : T3 Tryd.prog (fun a w => (LU n₀ w0 vr rs vp ps pl wk vt ts g6 g7 v9 w6 [.int .i64 0, .int .i64 0] w) ∧ Fr 93 [(4, vr), (5, vp), (6, .pointer (some ⟨g6, 0, none⟩)), (7, .pointer (some ⟨g7, 0, none⟩)), (8, .int .i64 (askedE rs ps [⟨pl, wk, vt, ts⟩])), (9, v9), (10, .int .i64 (askedE rs ps [⟨pl, wk, vt, ts⟩])), (11, .int .i64 (askedE rs ps [⟨pl, wk, vt, ts⟩])), (12, .pointer (some ⟨w6.heap.size, 0, none⟩)), (13, .slice none 0 0)] a) (sel [1, 1, 1, 1, 1, 1, 1, 1, 0, 0] lsB) (fun a w => ∃ q, Fr 93 ((49, .bool q) :: [(4, vr), (5, vp), (6, .pointer (some ⟨g6, 0, none⟩)), (7, .pointer (some ⟨g7, 0, none⟩)), (8, .int .i64 (askedE rs ps [⟨pl, wk, vt, ts⟩])), (9, v9), (10, .int .i64 (askedE rs ps [⟨pl, wk, vt, ts⟩])), (11, .int .i64 (askedE rs ps [⟨pl, wk, vt, ts⟩])), (12, .pointer (some ⟨w6.heap.size, 0, none⟩)), (13, .slice none 0 0)]) a ∧ ((q = true ↔ askedE rs ps [⟨pl, wk, vt, ts⟩] = 0) ∧ LU n₀ w0 vr rs vp ps pl wk vt ts g6 g7 v9 w6 [.int .i64 0, .int .i64 0] w)) No 9 No := by
  refine T3.leaf ?_
  rintro Q JS JX JT K hS hK hX hE hT hR a w ⟨hW, ⟨fr, rfl, q4, q5, q6, q7, q8, q9, q10, q11, q12, q13, _⟩⟩
  generalize askedE rs ps [⟨pl, wk, vt, ts⟩] = N at *
  by_cases h0 : N = 0
  · have hz : (N == 0) = true := by simp [h0]
    have H0 := Lib.hid h0
    clear h0
    rw [fr_lsB, show fr 4 = _ from q4, show fr 5 = _ from q5, show fr 6 = _ from q6, show fr 7 = _ from q7, show fr 8 = _ from q8, show fr 9 = _ from q9, show fr 10 = _ from q10, show fr 11 = _ from q11, show fr 12 = _ from q12, show fr 13 = _ from q13]
    clear q4 q5 q6 q7 q8 q9 q10 q11 q12 q13
    conv => arg 2; whnf
    go_wp2_with fail
    refine Met.intro (hS _ _ ?_)
    exact ⟨true, Fr.of _ rfl ⟨rfl, rfl, rfl, rfl, rfl, rfl, rfl, rfl, rfl, rfl, rfl, trivial⟩, ⟨fun _ => H0.out, fun _ => rfl⟩, hW⟩
  · have hz : (N == 0) = false := by simp [h0]
    have H0 := Lib.hid h0
    clear h0
    rw [fr_lsB, show fr 4 = _ from q4, show fr 5 = _ from q5, show fr 6 = _ from q6, show fr 7 = _ from q7, show fr 8 = _ from q8, show fr 9 = _ from q9, show fr 10 = _ from q10, show fr 11 = _ from q11, show fr 12 = _ from q12, show fr 13 = _ from q13]
    clear q4 q5 q6 q7 q8 q9 q10 q11 q12 q13
    conv => arg 2; whnf
    go_wp2_with fail
    refine Met.intro (hS _ _ ?_)
    exact ⟨false, Fr.of _ rfl ⟨rfl, rfl, rfl, rfl, rfl, rfl, rfl, rfl, rfl, rfl, rfl, trivial⟩, ⟨fun h => (by cases h), fun h => absurd h H0.out⟩, hW⟩

set_option maxRecDepth 100000 in
set_option maxHeartbeats 1000000 in
theorem ls9 (n₀ : Nat) (w0 : World) (vr : Value) (rs : List RuleL) (vp : Value) (ps : List ByteArray) (pl : ByteArray) (wk : Int) (vt : Value) (ts : List StatL) (g6 : Nat) (g7 : Nat) (v9 : Value) (w6 : World) : T3 Tryd.prog (fun a w => Fr 93 ((49, .bool true) :: [(4, vr), (5, vp), (6, .pointer (some ⟨g6, 0, none⟩)), (7, .pointer (some ⟨g7, 0, none⟩)), (8, .int .i64 (askedE rs ps [⟨pl, wk, vt, ts⟩])), (9, v9), (10, .int .i64 (askedE rs ps [⟨pl, wk, vt, ts⟩])), (11, .int .i64 (askedE rs ps [⟨pl, wk, vt, ts⟩])), (12, .pointer (some ⟨w6.heap.size, 0, none⟩)), (13, .slice none 0 0)]) a ∧ (true = true ↔ askedE rs ps [⟨pl, wk, vt, ts⟩] = 0) ∧ LU n₀ w0 vr rs vp ps pl wk vt ts g6 g7 v9 w6 [.int .i64 0, .int .i64 0] w) (sel [1, 1, 1, 1, 1, 1, 1, 1, 0, 1, 2] lsB) (fun a w => ∃ (v13 : Value), ((LU n₀ w0 vr rs vp ps pl wk vt ts g6 g7 v9 w6 [.int .i64 (pubN rs ps ⟨pl, wk, vt, ts⟩), .int .i64 (pubD rs ps ⟨pl, wk, vt, ts⟩)] w) ∧ Row w 0 2 v13 (partsQ rs ps ⟨pl, wk, vt, ts⟩).length (cellsOf encPr (partsQ rs ps ⟨pl, wk, vt, ts⟩))) ∧ Fr 93 [(4, vr), (5, vp), (6, .pointer (some ⟨g6, 0, none⟩)), (7, .pointer (some ⟨g7, 0, none⟩)), (8, .int .i64 (askedE rs ps [⟨pl, wk, vt, ts⟩])), (9, v9), (10, .int .i64 (askedE rs ps [⟨pl, wk, vt, ts⟩])), (11, .int .i64 (askedE rs ps [⟨pl, wk, vt, ts⟩])), (12, .pointer (some ⟨w6.heap.size, 0, none⟩)), (13, v13)] a) No 9 No := by
  refine T3.leafN ?_
  rintro JS hS a w ⟨⟨fr, rfl, q49, q4, q5, q6, q7, q8, q9, q10, q11, q12, q13, _⟩, hq, hO⟩
  have hE0 := hq.1 rfl
  clear hq
  have hLT := hO.lt.below hO.b6
  have hD := hLT.drew
  have hg := hD.pq.good (wk := wk) hE0
  have HA := Lib.hid (points_ref w.drew vr vp vt rs ps ts pl wk hg.hg hg.hl hg.hc hD.rr hD.tr hD.pp)
  have HE := Lib.hid hE0
  have l0 := hLT.line.2.1 0 _ rfl
  have l1 := hLT.line.2.1 1 _ rfl
  have l2 := hLT.line.2.1 2 _ rfl
  have h6 := hO.b6
  have hU := hO.out
  have hz6 := h6.size
  have HO := Lib.hid hO
  have e1 : pubN rs ps ⟨pl, wk, vt, ts⟩ = ofHn (ptsV rs ps ts) := by unfold pubN; rw [if_pos hE0]
  have e2 : pubD rs ps ⟨pl, wk, vt, ts⟩ = ofHd (ptsV rs ps ts) := by unfold pubD; rw [if_pos hE0]
  have e3 : partsQ rs ps ⟨pl, wk, vt, ts⟩ = partsL rs ps ts := by unfold partsQ; rw [if_pos hE0]
  have H1 := Lib.hid e1
  have H2 := Lib.hid e2
  have H3 := Lib.hid e3
  clear e1 e2 e3 hE0 hg hO hLT
  obtain ⟨p1, c1, hv1⟩ := hD.tr.shape
  subst hv1
  generalize hN : ofHn (ptsV rs ps ts) = N at *
  generalize hDD : ofHd (ptsV rs ps ts) = DD at *
  clear hN hDD
  rw [fr_lsB, show fr 49 = _ from q49, show fr 4 = _ from q4, show fr 5 = _ from q5, show fr 6 = _ from q6, show fr 7 = _ from q7, show fr 8 = _ from q8, show fr 9 = _ from q9, show fr 10 = _ from q10, show fr 11 = _ from q11, show fr 12 = _ from q12, show fr 13 = _ from q13]
  clear q49 q4 q5 q6 q7 q8 q9 q10 q11 q12 q13
  conv => arg 2; whnf
  refine wp_region_mix (some w6.heap.size) [(true, 0), (true, 1), (true, 2), (true, 4), (true, 5), (true, 6), (false, 3), (false, 7), (false, 8), (true, 9)] (by kernel_rfl) (by kernel_rfl) (by intro c a d v w h; cases d <;> exact h) ?_
  simp only [pickFlat, List.filterMap_cons, List.filterMap_nil, List.getElem?_cons_succ, List.getElem?_cons_zero, Option.map_some]
  have A0 := wof_at (w₁ := w.drew) (row := some w6.heap.size) (a := ⟨g6, 0, none⟩) l0 (by have := HO.out.lt.line.1; simp; omega)
  have A1 := wof_at (w₁ := w.drew) (row := some w6.heap.size) (a := ⟨g6, 1, none⟩) l1 (by have := HO.out.lt.line.1; simp; omega)
  have A2 := wof_at (w₁ := w.drew) (row := some w6.heap.size) (a := ⟨g6, 2, none⟩) l2 (by have := HO.out.lt.line.1; simp; omega)
  refine flat_hide (fun W hH hC hN hE => ?_)
  iterate 6 (refine hH.out _ _ _ _ (fun K hK => ?_); go_simp; refine hK _ ?_; clear hK K)
  refine hC.out _ _ _ _ (by first | rfl | go_simp) (fun K hK => ?_)
  simp only [bare]
  go_wp2_with fail
  refine HA.out.mono ?_
  rintro e w1 ⟨rfl, hb1⟩
  have hD1 := hD.below hb1
  go_wp2_with fail
  refine hK.out _ _ (grown_row (grown_of_below hb1) _) ?_
  clear hK K
  refine hC.out _ _ _ _ (by first | rfl | go_simp) (fun K hK => ?_)
  simp only [bare]
  go_wp2_with fail
  refine (parts_ref w1 vr vp _ rs ps ts pl wk (hD1.pq.good HE.out)).mono ?_
  rintro e w2 ⟨v13, rfl, hown, hb2⟩
  have hb12 := hb1.trans (hb2.mono hb1.size)
  go_wp2_with fail
  refine hK.out _ _ (grown_row (grown_of_below hb12) _) ?_
  clear hK K
  refine hC.out _ _ _ _ (by first | rfl | go_simp) (fun K hK => ?_)
  simp only [bare]
  replace hU := (hU.under (below_drewN (Below.refl _ _) 1)).under hb12
  have hf0 := hU.2.2 0
  have hf1 := hU.2.2 1
  have o0 := hU.2.1 0 _ rfl
  have o1 := hU.2.1 1 _ rfl
  go_wp2_with fail
  refine hK.out _ _ (grown_trans (grown_trans (grown_row (grown_of_below hb12) _) (grown_setCell _ _ _ _)) (grown_setCell _ _ _ _)) ?_
  clear hK K
  iterate 1 (refine hH.out _ _ _ _ (fun K hK => ?_); go_simp; refine hK _ ?_; clear hK K)
  refine hE.out _ _ ?_
  clear hH hC hN hE W
  show JS _ _
  refine hS _ _ ?_
  have h62 := (h6.trans (below_drewN (Below.refl _ _) 1)).trans (hb12.mono hz6)
  have g1 := grown_setCell w2 w6.heap.size 0 (.int .i64 N)
  have g2 := grown_setCell (w2.setCell ⟨w6.heap.size, 0, none⟩ (.int .i64 N)) w6.heap.size 1 (.int .i64 DD)
  have hsz2 := hb12.size
  have hz3 : w6.heap.size < w.drew.heap.size := HO.out.out.1
  have hgo : ∀ k, v13.ownBlock = some k → k ≠ w6.heap.size := fun k hk e => by have := (hown.lt k hk).1; have := hb1.size; omega
  refine ⟨v13, ⟨⟨HO.out.lt, HO.out.n7, HO.out.r9, (h62.grown g1 h62.size (fun k hk => by cases hk; exact Nat.le_refl _)).grown g2 (Nat.le_trans h62.size g1.size) (fun k hk => by cases hk; exact Nat.le_refl _), ?_⟩, ?_⟩, Fr.of _ rfl ⟨rfl, rfl, rfl, rfl, rfl, rfl, rfl, rfl, rfl, rfl, trivial⟩⟩
  · rw [H1.out, H2.out]
    exact (hU.set 0 (by simp) _).set 1 (by simp) _
  · rw [H3.out]
    exact ((Row.of_owns hown).mono (Nat.zero_le _)).swap (fun k hk => by rw [g2.block k (Nat.lt_of_lt_of_le (hown.lt k hk).2 g1.size) (fun e => hgo k hk (by simpa using e)), g1.block k (hown.lt k hk).2 (fun e => hgo k hk (by simpa using e))]) (Nat.le_trans g1.size g2.size)

end Go.Proofs.YtbidnbcclibigaaDoor
