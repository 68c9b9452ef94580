/-
  The law WeeksTotalled: the lines and the window are drawn; the total; the first faults. No condition.
-/
import Derived.Test.YtbidnbcclibigaaWT0
namespace Go.Bw
open Go.RowKit
theorem Blk.below {w w' : World} {g : Nat} {cs : List Value} (h : Blk w g cs) (b : Below w.heap.size w w') : Blk w' g cs := h.grow (row := none) (grown_of_below b) (by simp)
end Go.Bw
namespace Go.Proofs.Ytbidnbcclibigaa
open Go.RowKit Go.Bw
set_option maxRecDepth 100000 in
set_option maxHeartbeats 1000000 in
theorem wt_body (n₀ : Nat) (w0 : World) (m k : Int) : T3 Try.prog (fun a w => ∃ week : Int, ∃ (vr : Value) (rs : List RuleL) (vp : Value) (ps : List ByteArray) (vx : Value) (ls : List LineL), ((ls.length : Int) = k) ∧ (0 ≤ k ∧ k < m ∧ m ≤ 5) ∧ TW n₀ w0 (70 + 20 * k.toNat) vr rs vp ps vx ls w ∧ Fr 141 [(25, .int .i64 m), (26, .int .i64 k), (7, .int .i64 week), (3, .pointer (some ⟨n₀, 0, none⟩)), (4, vr), (5, vp), (6, vx)] a) (sel [1, 1, 1, 1, 1, 0, 1, 4, 4, 1, 1, 0] wtB) (fun a w => ∃ week : Int, ∃ (vr : Value) (rs : List RuleL) (vp : Value) (ps : List ByteArray) (vx : Value) (ls : List LineL), ((ls.length : Int) = k + 1) ∧ (0 ≤ k ∧ k < m ∧ m ≤ 5) ∧ TW n₀ w0 (90 + 20 * k.toNat) vr rs vp ps vx ls w ∧ Fr 141 [(25, .int .i64 m), (26, .int .i64 k), (7, .int .i64 week), (3, .pointer (some ⟨n₀, 0, none⟩)), (4, vr), (5, vp), (6, vx)] a) No 9 No := by
  refine T3.block (id' := 1) (c := (sel [1, 1, 1, 1, 1, 0, 1, 4, 4, 1, 1, 0, 4] wtB)) (by decide) ?_
  refine T3.seq (s := (sel [1, 1, 1, 1, 1, 0, 1, 4, 4, 1, 1, 0, 4, 0] wtB)) (c := (sel [1, 1, 1, 1, 1, 0, 1, 4, 4, 1, 1, 0, 4, 1] wtB)) (wt7 n₀ w0 m k) ?_
  refine T3.seq (s := (sel [1, 1, 1, 1, 1, 0, 1, 4, 4, 1, 1, 0, 4, 1, 0] wtB)) (c := (sel [1, 1, 1, 1, 1, 0, 1, 4, 4, 1, 1, 0, 4, 1, 1] wtB)) (S := fun a w => ∃ week : Int, ∃ (vr : Value) (rs : List RuleL) (vp : Value) (ps : List ByteArray) (vx : Value) (ls : List LineL), ((ls.length : Int) = k) ∧ (0 ≤ k ∧ k < m ∧ m ≤ 5) ∧ TW n₀ w0 (72 + 20 * k.toNat) vr rs vp ps vx ls w ∧ Fr 141 [(25, .int .i64 m), (26, .int .i64 k), (7, .int .i64 week), (3, .pointer (some ⟨n₀, 0, none⟩)), (4, vr), (5, vp), (6, vx)] a) (T3.seq (s := (sel [1, 1, 1, 1, 1, 0, 1, 4, 4, 1, 1, 0, 4, 1, 0, 0] wtB)) (c := (sel [1, 1, 1, 1, 1, 0, 1, 4, 4, 1, 1, 0, 4, 1, 0, 1] wtB)) (wt8 n₀ w0 m k) (T3.ex fun q => ?_)) (wt10 n₀ w0 m k)
  refine T3.cond (o := .tmp 34) (x := (sel [1, 1, 1, 1, 1, 0, 1, 4, 4, 1, 1, 0, 4, 1, 0, 1, 2] wtB)) (y := .skip) (fun a w => ∃ week : Int, ∃ (vr : Value) (rs : List RuleL) (vp : Value) (ps : List ByteArray) (vx : Value) (ls : List LineL), ((ls.length : Int) = k) ∧ (0 ≤ k ∧ k < m ∧ m ≤ 5) ∧ TW n₀ w0 (72 + 20 * k.toNat) vr rs vp ps vx ls w ∧ Fr 141 [(34, .bool true), (25, .int .i64 m), (26, .int .i64 k), (7, .int .i64 week), (3, .pointer (some ⟨n₀, 0, none⟩)), (4, vr), (5, vp), (6, vx)] a) (fun a w => ∃ week : Int, ∃ (vr : Value) (rs : List RuleL) (vp : Value) (ps : List ByteArray) (vx : Value) (ls : List LineL), ((ls.length : Int) = k) ∧ (0 ≤ k ∧ k < m ∧ m ≤ 5) ∧ TW n₀ w0 (72 + 20 * k.toNat) vr rs vp ps vx ls w ∧ Fr 141 [(25, .int .i64 m), (26, .int .i64 k), (7, .int .i64 week), (3, .pointer (some ⟨n₀, 0, none⟩)), (4, vr), (5, vp), (6, vx)] a) ?_ (wt9 n₀ w0 m k) (T3.skip (fun _ _ h => h))
  rintro a w ⟨week, vr, rs, vp, ps, vx, ls, hlen, hk, hT, hF⟩
  have he := hF.eval 34 (by decide) (v := .bool q) (by simp)
  cases q
  · exact .inr ⟨he, week, vr, rs, vp, ps, vx, ls, hlen, hk, hT, hF.tail⟩
  · exact .inl ⟨he, week, vr, rs, vp, ps, vx, ls, hlen, hk, hT, hF⟩

set_option maxRecDepth 100000 in
set_option maxHeartbeats 1000000 in
theorem wt_loop (n₀ : Nat) (w0 : World) (m : Int) : T3 Try.prog (wtI n₀ w0 m 0) (sel [1, 1, 1, 1, 1, 0, 1] wtB) (fun a w => ∃ (vr : Value) (rs : List RuleL) (vp : Value) (ps : List ByteArray) (vx : Value) (ls : List LineL), ls.length ≤ 5 ∧ TW n₀ w0 (170) vr rs vp ps vx ls w ∧ Fr 141 [(3, .pointer (some ⟨n₀, 0, none⟩)), (4, vr), (5, vp), (6, vx)] a) No 9 No := by
  refine T3.loop (c := (sel [1, 1, 1, 1, 1, 0, 1, 4, 4] wtB)) (fun n a w => ∃ k : Int, (n : Int) = m - k ∧ wtI n₀ w0 m k a w) ?_ (fun n => T3.ex fun k => T3.pure fun hn => ?_)
  · intro a w h
    have hk := h
    obtain ⟨_, _, _, _, _, _, _, _, ⟨_, hk, _⟩, _⟩ := hk
    exact ⟨m.toNat, 0, by omega, h⟩
  refine T3.seq (s := (sel [1, 1, 1, 1, 1, 0, 1, 4, 4, 0] wtB)) (c := (sel [1, 1, 1, 1, 1, 0, 1, 4, 4, 1] wtB)) ((wt6 n₀ w0 m k).noX) ?_
  refine T3.seq (s := (sel [1, 1, 1, 1, 1, 0, 1, 4, 4, 1, 0] wtB)) (c := (sel [1, 1, 1, 1, 1, 0, 1, 4, 4, 1, 1] wtB)) (S := fun a w => ∃ week : Int, ∃ (vr : Value) (rs : List RuleL) (vp : Value) (ps : List ByteArray) (vx : Value) (ls : List LineL), ((ls.length : Int) = k) ∧ (0 ≤ k ∧ k < m ∧ m ≤ 5) ∧ TW n₀ w0 (70 + 20 * k.toNat) vr rs vp ps vx ls w ∧ Fr 141 [(25, .int .i64 m), (26, .int .i64 k), (7, .int .i64 week), (3, .pointer (some ⟨n₀, 0, none⟩)), (4, vr), (5, vp), (6, vx)] a) ?_ (T3.seq (s := (sel [1, 1, 1, 1, 1, 0, 1, 4, 4, 1, 1, 0] wtB)) (c := (sel [1, 1, 1, 1, 1, 0, 1, 4, 4, 1, 1, 1] wtB)) (T3.noX (wt_body n₀ w0 m k)) ?_)
  · refine T3.cond (o := .tmp 27) (x := .skip) (y := .exit 0) (fun a w => k < m ∧ wtI n₀ w0 m k a w) (fun a w => ¬ k < m ∧ wtI n₀ w0 m k a w) ?_ (T3.skip ?_) (T3.exit ?_)
    · rintro a w ⟨q, hF, hq, hI⟩
      have he := hF.eval 27 (by decide) (v := .bool q) (by simp)
      cases q
      · exact .inr ⟨he, (fun h => by have := hq.2 h; cases this), hI⟩
      · exact .inl ⟨he, hq.1 rfl, hI⟩
    · rintro a w ⟨hlt, week, vr, rs, vp, ps, vx, ls, hlen, hk, hT, hF⟩
      exact ⟨week, vr, rs, vp, ps, vx, ls, hlen, ⟨hk.1, hlt, hk.2.2⟩, hT, hF⟩
    · rintro a w ⟨hlt, week, vr, rs, vp, ps, vx, ls, hlen, hk, hT, hF⟩
      exact ⟨vr, rs, vp, ps, vx, ls, by omega, hT.mono (by omega), hF.tail.tail.tail⟩
  · intro a w hx
    have hk := hx
    obtain ⟨_, _, _, _, _, _, _, _, ⟨_, hk, _⟩, _⟩ := hk
    exact (((wt11 n₀ w0 m k).noX).post (fun a w q => ⟨n - 1, by omega, k + 1, by omega, q⟩)) a w hx

/-- What holds once all is drawn. -/
structure TB (n₀ : Nat) (w0 : World) (vr : Value) (rs : List RuleL) (vp : Value) (ps : List ByteArray) (vx : Value) (ls : List LineL) (g8 : Nat) (f t : Int) (w : World) : Prop where
  bel : Below n₀ w0 w
  rr : Row w 0 7 vr rs.length (cellsOf encR rs)
  pp : Row w 0 1 vp ps.length (cellsOf encS ps)
  xx : Row w 0 3 vx ls.length (cellsOf encL ls)
  la : LinesAt w ls
  win : Blk w g8 [.int .i64 f, .int .i64 t]
  ok : ∀ r ∈ rs, RuleOk r
  pok : ∀ s ∈ ps, s.size ≤ 9223372036854775807
  lok : ∀ x ∈ ls, LineOk x
  l5 : ls.length ≤ 5
  hz : n₀ ≤ w.heap.size
theorem TB.below {n₀ : Nat} {w0 w w' : World} {vr vp vx : Value} {rs : List RuleL} {ps : List ByteArray} {ls : List LineL} {g8 : Nat} {f t : Int} (h : TB n₀ w0 vr rs vp ps vx ls g8 f t w) (b : Below w.heap.size w w') : TB n₀ w0 vr rs vp ps vx ls g8 f t w' :=
  ⟨h.bel.trans (b.mono h.hz), h.rr.below b, h.pp.below b, h.xx.below b, h.la.below b, h.win.below b, h.ok, h.pok, h.lok, h.l5, Nat.le_trans h.hz b.size⟩
theorem TB.alloc {n₀ : Nat} {w0 w : World} {vr vp vx : Value} {rs : List RuleL} {ps : List ByteArray} {ls : List LineL} {g8 : Nat} {f t : Int} (h : TB n₀ w0 vr rs vp ps vx ls g8 f t w) (o : Obj) : TB n₀ w0 vr rs vp ps vx ls g8 f t (w.alloc o) :=
  h.below ((Below.refl _ _).alloc (Nat.le_refl _) o)
set_option maxRecDepth 100000 in
set_option maxHeartbeats 1000000 in
theorem wt12 (n₀ : Nat) (w0 : World) : T3 Try.prog (fun a w => ∃ (vr : Value) (rs : List RuleL) (vp : Value) (ps : List ByteArray) (vx : Value) (ls : List LineL), ls.length ≤ 5 ∧ TW n₀ w0 (170) vr rs vp ps vx ls w ∧ Fr 141 [(3, .pointer (some ⟨n₀, 0, none⟩)), (4, vr), (5, vp), (6, vx)] a) (sel [1, 1, 1, 1, 1, 1, 0] wtB) (fun a w => ∃ (vr : Value) (rs : List RuleL) (vp : Value) (ps : List ByteArray) (vx : Value) (ls : List LineL) (g8 : Nat) (f t : Int), TB n₀ w0 vr rs vp ps vx ls g8 f t w ∧ Fr 141 [(4, vr), (5, vp), (6, vx), (8, .pointer (some ⟨g8, 0, none⟩))] a) No 9 No := by
  refine T3.leaf ?_
  rintro Q JS JX JT K hS hK hX hE hT hR a w ⟨vr, rs, vp, ps, vx, ls, hl5, hT_, ⟨f, rfl, q3, q4, q5, q6, _⟩⟩
  rw [frame141, show f 3 = _ from q3, show f 4 = _ from q4, show f 5 = _ from q5, show f 6 = _ from q6]
  clear q3 q4 q5 q6
  conv => arg 2; whnf
  go_wp2_with fail
  refine (pick_lit n₀ _ [1, 1, 2, 0] 4 _ _ _ rfl rfl (by decide) (by decide) hT_.str (by omega)).mono ?_
  rintro e w1 ⟨f1, rfl, _, hd⟩
  replace hT_ := hT_.drawn hd
  clear hd
  go_wp2_with fail
  refine (pick_lit n₀ _ [1, 3, 4, 9, 61, 62] 6 _ _ _ rfl rfl (by decide) (by decide) hT_.str (by omega)).mono ?_
  rintro e w2 ⟨t1, rfl, _, hd⟩
  replace hT_ := hT_.drawn hd
  clear hd
  go_wp2_with fail
  refine Met.intro (hS _ _ ?_)
  have hA := hT_.alloc (.cells #[.int .i64 f1, .int .i64 t1] 39)
  exact ⟨vr, rs, vp, ps, vx, ls, w2.heap.size, f1, t1, ⟨hA.bel, (Row.of_owns hA.rr).mono (Nat.zero_le _), (Row.of_owns hA.pp).mono (Nat.zero_le _), (Row.of_owns hA.xx).mono (Nat.zero_le _), fun x hx => (Row.of_owns (hA.la x hx)).mono (Nat.zero_le _), Blk.new w2 #[.int .i64 f1, .int .i64 t1] _, hA.ok, fun s hs => (hA.pok s hs).le, hA.lok, hl5, by have := hA.hz; omega⟩, Fr.of _ rfl ⟨rfl, rfl, rfl, rfl, trivial⟩⟩

set_option maxRecDepth 100000 in
set_option maxHeartbeats 1000000 in
theorem wt13 (n₀ : Nat) (w0 : World) (vr : Value) (rs : List RuleL) (vp : Value) (ps : List ByteArray) (vx : Value) (ls : List LineL) (g8 : Nat) (f t : Int) : T3 Try.prog (fun a w => TB n₀ w0 vr rs vp ps vx ls g8 f t w ∧ Fr 141 [(4, vr), (5, vp), (6, vx), (8, .pointer (some ⟨g8, 0, none⟩))] a) (sel [1, 1, 1, 1, 1, 1, 1, 0] wtB) (fun a w => ∃ g9 : Nat, (TB n₀ w0 vr rs vp ps vx ls g8 f t w ∧ Blk w g9 [.int .i64 (totN rs ps ls f t), .int .i64 (totD rs ps ls f t)]) ∧ Fr 141 [(4, vr), (5, vp), (6, vx), (8, .pointer (some ⟨g8, 0, none⟩)), (9, .pointer (some ⟨g9, 0, none⟩)), (10, .int .i64 (totalE rs ps ls f t))] a) No 9 No := by
  refine T3.leaf ?_
  rintro Q JS JX JT K hS hK hX hE hT hR a w ⟨hB, ⟨fr, rfl, q4, q5, q6, q8, _⟩⟩
  have c0 := hB.win.2.1 0 _ rfl
  have c1 := hB.win.2.1 1 _ rfl
  rw [frame141, show fr 4 = _ from q4, show fr 5 = _ from q5, show fr 6 = _ from q6, show fr 8 = _ from q8]
  clear q4 q5 q6 q8
  conv => arg 2; whnf
  go_wp2_with fail
  refine (total_prog _ vr vp vx rs ps ls f t hB.ok hB.pok hB.lok (by have := hB.l5; omega) hB.rr hB.pp hB.xx hB.la).mono ?_
  rintro e w1 ⟨rfl, hb⟩
  replace hB := hB.below hb
  clear hb c0 c1
  generalize hN : totN rs ps ls f t = N at *
  generalize hDD : totD rs ps ls f t = DD at *
  have HN := Lib.hid hN
  have HD := Lib.hid hDD
  clear hN hDD
  go_wp2_with fail
  refine Met.intro (hS _ _ ?_)
  exact ⟨w1.heap.size, ⟨hB.alloc _, Blk.new w1 #[.int .i64 N, .int .i64 DD] 41⟩, Fr.of _ rfl ⟨rfl, rfl, rfl, rfl, rfl, rfl, trivial⟩⟩

set_option maxRecDepth 100000 in
set_option maxHeartbeats 1000000 in
theorem wt14 (n₀ : Nat) (w0 : World) (vr : Value) (rs : List RuleL) (vp : Value) (ps : List ByteArray) (vx : Value) (ls : List LineL) (g8 : Nat) (f t : Int) (g9 : Nat) : T3 Try.prog (fun a w => (TB n₀ w0 vr rs vp ps vx ls g8 f t w ∧ Blk w g9 [.int .i64 (totN rs ps ls f t), .int .i64 (totD rs ps ls f t)]) ∧ Fr 141 [(4, vr), (5, vp), (6, vx), (8, .pointer (some ⟨g8, 0, none⟩)), (9, .pointer (some ⟨g9, 0, none⟩)), (10, .int .i64 (totalE rs ps ls f t))] a) (sel [1, 1, 1, 1, 1, 1, 1, 1, 0] wtB) (fun a w => (TB n₀ w0 vr rs vp ps vx ls g8 f t w ∧ Blk w g9 [.int .i64 (totN rs ps ls f t), .int .i64 (totD rs ps ls f t)]) ∧ Fr 141 [(4, vr), (5, vp), (6, vx), (8, .pointer (some ⟨g8, 0, none⟩)), (9, .pointer (some ⟨g9, 0, none⟩)), (10, .int .i64 (totalE rs ps ls f t)), (11, .int .i64 (err2 (rulesE rs) (listE ps)))] a) No 9 No := by
  refine T3.leaf ?_
  rintro Q JS JX JT K hS hK hX hE hT hR a w ⟨⟨hB, hG⟩, ⟨fr, rfl, q4, q5, q6, q8, q9, q10, _⟩⟩
  rw [frame141, show fr 4 = _ from q4, show fr 5 = _ from q5, show fr 6 = _ from q6, show fr 8 = _ from q8, show fr 9 = _ from q9, show fr 10 = _ from q10]
  clear q4 q5 q6 q8 q9 q10
  conv => arg 2; whnf
  go_wp2_with fail
  refine (rules_ref vr rs.length rs 0 _ hB.rr hB.ok).mono ?_
  rintro e w1 ⟨rfl, hb⟩
  replace hB := hB.below hb
  replace hG := hG.below hb
  clear hb
  go_wp2_with fail
  refine (listFault_ref vp ps.length ps 0 _ hB.pp hB.pok).mono ?_
  rintro e w2 ⟨rfl, hb⟩
  replace hB := hB.below hb
  replace hG := hG.below hb
  clear hb
  go_wp2_with fail
  refine (errs_two _ _ w2 _).mono ?_
  rintro e w3 ⟨rfl, hb⟩
  replace hB := hB.below hb
  replace hG := hG.below hb
  clear hb
  go_wp2_with fail
  refine Met.intro (hS _ _ ?_)
  exact ⟨⟨hB, hG⟩, Fr.of _ rfl ⟨rfl, rfl, rfl, rfl, rfl, rfl, rfl, trivial⟩⟩

end Go.Proofs.Ytbidnbcclibigaa
