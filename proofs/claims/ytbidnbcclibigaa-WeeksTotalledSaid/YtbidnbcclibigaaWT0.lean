/-
  The law WeeksTotalled: what holds between its statements; the data that it draws. No condition.
-/
import Derived.Test.YtbidnbcclibigaaRules
import Derived.Test.YtbidnbcclibigaaScored
namespace Go.Bw
open Go.RowKit
/-- Rows of different types lie in different blocks. -/
theorem owns_ne {w : World} {b b' e e' sz sz' n n' : Nat} {v v' : Value} {xs xs' : List Value} (h : w.ownsRow b e sz v n xs) (h' : w.ownsRow b' e' sz' v' n' xs') (he : e ≠ e') : v.ownBlock ≠ none → v.ownBlock ≠ v'.ownBlock := by
  intro hn heq
  rcases h.2 with ⟨rfl, _⟩ | ⟨g, cap, cur, rfl, _, hg, _⟩
  · exact hn rfl
  · rcases h'.2 with ⟨rfl, _⟩ | ⟨g', cap', cur', rfl, _, hg', _⟩
    · cases heq
    · simp only [Value.ownBlock, Option.some.injEq] at heq
      subst heq
      rw [hg] at hg'
      simp only [Option.some.injEq, Obj.cells.injEq] at hg'
      exact he hg'.2.1
theorem owns_app {w w' : World} {b b' e e' sz sz' n n' : Nat} {v v' : Value} {xs xs' : List Value} (h : w.ownsRow b e sz v n xs) (h' : w.ownsRow b' e' sz' v' n' xs') (he : e ≠ e') (g : w.grownBy w' v'.ownBlock) : w'.ownsRow b e sz v n xs := by
  by_cases hn : v.ownBlock = none
  · exact h.kept (row := v'.ownBlock) g (.inl hn)
  · exact h.kept g (.inr (owns_ne h h' he hn))
end Go.Bw
namespace Go.Proofs.Ytbidnbcclibigaa
open Go.RowKit Go.Bw
noncomputable def wtB : Code := (Try.f3.body).getD .skip
set_option maxRecDepth 100000 in
theorem frame141 (f : Nat → Value) : frame 141 f = ⟨#[f 0, f 1, f 2, f 3, f 4, f 5, f 6, f 7, f 8, f 9, f 10, f 11, f 12, f 13, f 14, f 15, f 16, f 17, f 18, f 19, f 20, f 21, f 22, f 23, f 24, f 25, f 26, f 27, f 28, f 29, f 30, f 31, f 32, f 33, f 34, f 35, f 36, f 37, f 38, f 39, f 40, f 41, f 42, f 43, f 44, f 45, f 46, f 47, f 48, f 49, f 50, f 51, f 52, f 53, f 54, f 55, f 56, f 57, f 58, f 59, f 60, f 61, f 62, f 63, f 64, f 65, f 66, f 67, f 68, f 69, f 70, f 71, f 72, f 73, f 74, f 75, f 76, f 77, f 78, f 79, f 80, f 81, f 82, f 83, f 84, f 85, f 86, f 87, f 88, f 89, f 90, f 91, f 92, f 93, f 94, f 95, f 96, f 97, f 98, f 99, f 100, f 101, f 102, f 103, f 104, f 105, f 106, f 107, f 108, f 109, f 110, f 111, f 112, f 113, f 114, f 115, f 116, f 117, f 118, f 119, f 120, f 121, f 122, f 123, f 124, f 125, f 126, f 127, f 128, f 129, f 130, f 131, f 132, f 133, f 134, f 135, f 136, f 137, f 138, f 139, f 140], []⟩ := by rfl
/-- The data of the law. -/
structure TW (n₀ : Nat) (w0 : World) (b : Nat) (vr : Value) (rs : List RuleL) (vp : Value) (ps : List ByteArray) (vx : Value) (ls : List LineL) (w : World) : Prop where
  bel : Below n₀ w0 w
  str : Str n₀ w b
  rr : w.ownsRow (n₀ + 1) 55 7 vr rs.length (cellsOf encR rs)
  pp : w.ownsRow (n₀ + 1) 9 1 vp ps.length (cellsOf encS ps)
  xx : w.ownsRow (n₀ + 1) 36 3 vx ls.length (cellsOf encL ls)
  la : ∀ x ∈ ls, w.ownsRow (n₀ + 1) 70 2 x.sv x.stats.length (cellsOf encT x.stats)
  ok : AllOk rs
  r5 : rs.length ≤ 5
  pok : SmAll ps
  p5 : ps.length ≤ 5
  lok : ∀ x ∈ ls, LineOk x
  hz : n₀ + 1 ≤ w.heap.size
section
variable {n₀ b b' : Nat} {w0 w w' : World} {vr vp vx : Value} {rs : List RuleL} {ps : List ByteArray} {ls : List LineL}
theorem TW.drawn (h : TW n₀ w0 b vr rs vp ps vx ls w) (d : Drawn n₀ w w' b') : TW n₀ w0 b' vr rs vp ps vx ls w' :=
  ⟨below_str h.bel d.gr (Nat.le_refl _) (by have := h.hz; omega), d.str, owns_drawn h.rr d (by omega), owns_drawn h.pp d (by omega), owns_drawn h.xx d (by omega), fun x hx => owns_drawn (h.la x hx) d (by omega), h.ok, h.r5, h.pok, h.p5, h.lok, Nat.le_trans h.hz d.size⟩
theorem TW.below (h : TW n₀ w0 b vr rs vp ps vx ls w) (g : Below w.heap.size w w') : TW n₀ w0 b vr rs vp ps vx ls w' :=
  ⟨h.bel.trans (g.mono (by have := h.hz; omega)), h.str.below g, owns_below h.rr g (Nat.le_refl _), owns_below h.pp g (Nat.le_refl _), owns_below h.xx g (Nat.le_refl _), fun x hx => owns_below (h.la x hx) g (Nat.le_refl _), h.ok, h.r5, h.pok, h.p5, h.lok, Nat.le_trans h.hz g.size⟩
theorem TW.alloc (h : TW n₀ w0 b vr rs vp ps vx ls w) (o : Obj) : TW n₀ w0 b vr rs vp ps vx ls (w.alloc o) := h.below ((Below.refl _ _).alloc (Nat.le_refl _) o)
theorem TW.mono (h : TW n₀ w0 b vr rs vp ps vx ls w) (hb : b ≤ b') : TW n₀ w0 b' vr rs vp ps vx ls w :=
  ⟨h.bel, h.str.mono hb, h.rr, h.pp, h.xx, h.la, h.ok, h.r5, h.pok, h.p5, h.lok, h.hz⟩
theorem TW.app (h : TW n₀ w0 b vr rs vp ps vx ls w) {v' : Value} {x : LineL} (hs : w.ownsRow (n₀ + 1) 70 2 x.sv x.stats.length (cellsOf encT x.stats)) (hx : LineOk x)
    (ho : w'.ownsRow (n₀ + 1) 36 3 v' (ls ++ [x]).length (cellsOf encL (ls ++ [x]))) (g : w.grownBy w' vx.ownBlock) : TW n₀ w0 b vr rs vp ps v' (ls ++ [x]) w' := by
  refine ⟨h.bel.grown g (by have := h.hz; omega) (fun k hk => by have := (h.xx.lt k hk).1; omega), h.str.app h.xx g (by omega), owns_app h.rr h.xx (by decide) g, owns_app h.pp h.xx (by decide) g, ho, fun y hy => ?_, h.ok, h.r5, h.pok, h.p5, fun y hy => ?_, Nat.le_trans h.hz g.size⟩
  · rcases List.mem_append.1 hy with hy | hy
    · exact owns_app (h.la y hy) h.xx (by decide) g
    · rw [List.mem_singleton.1 hy]; exact owns_app hs h.xx (by decide) g
  · rcases List.mem_append.1 hy with hy | hy
    · exact h.lok y hy
    · rw [List.mem_singleton.1 hy]; exact hx
end
theorem el_line : Elem Try.prog 30 36 (.agg #[.string ByteArray.empty, .int .i64 0, .slice none 0 0]) 3 48 := ⟨by kernel_rfl, by kernel_rfl, by kernel_rfl, by decide, by decide⟩
theorem str_init (w : World) (v : Value) (n : Nat) (zs : List Int) (e : TypeId) (h : SRow w v n zs w.heap.size) : Str w.heap.size (w.alloc (.cells #[v, .int .i64 0] e)) 0 := by
  refine ⟨v, n, zs, 0, ?_, ?_, ?_, by omega, by simp, h.swap (fun k hk => (World.grownBy_alloc w _ none).block k hk (by simp)) (by simp)⟩
  · rw [World.cell?_alloc_at _ _ _ _ rfl]; rfl
  · rw [World.cell?_alloc_at _ _ _ _ rfl]; rfl
  · exact frozen_new0 w #[v, .int .i64 0] e 1
set_option maxRecDepth 100000 in
set_option maxHeartbeats 1000000 in
theorem wt0 (v : Value) (w0 : World) : T3 Try.prog (fun a w => w = w0 ∧ Fr 141 [(0, v)] a) (sel [0] wtB) (fun a w => w = w0 ∧ Fr 141 [(0, v)] a) No 9 No := by
  refine T3.leaf ?_
  rintro Q JS JX JT K hS hK hX hE hT hR a w ⟨hw, ⟨f, rfl, q0, _⟩⟩
  subst hw
  rw [frame141, show f 0 = _ from q0]
  clear q0
  conv => arg 2; whnf
  go_wp2_with fail
  refine Met.intro (hS _ _ ?_)
  exact ⟨rfl, Fr.of _ rfl ⟨rfl, trivial⟩⟩

set_option maxRecDepth 100000 in
set_option maxHeartbeats 1000000 in
theorem wt1 (v : Value) (n : Nat) (zs : List Int) (w0 : World) (h : SRow w0 v n zs w0.heap.size) : T3 Try.prog (fun a w => w = w0 ∧ Fr 141 [(0, v)] a) (sel [1, 0] wtB) (fun a w => (Str w0.heap.size w 0 ∧ Below w0.heap.size w0 w ∧ w0.heap.size + 1 ≤ w.heap.size) ∧ Fr 141 [(3, .pointer (some ⟨w0.heap.size, 0, none⟩))] a) No 9 No := by
  refine T3.leaf ?_
  rintro Q JS JX JT K hS_ hK hX hE hT hR a w ⟨hw, ⟨f, rfl, q0, _⟩⟩
  subst hw
  have hS0 := str_init w v n zs 25 h
  obtain ⟨p, c, rfl⟩ : ∃ a c, v = .slice a n c := by
    rcases h with ⟨rfl, a, c, rfl⟩ | ⟨h, _⟩
    · exact ⟨_, _, rfl⟩
    · rcases h.2 with ⟨rfl, rfl⟩ | ⟨b, off, cap, rfl, _⟩
      · exact ⟨_, _, rfl⟩
      · exact ⟨_, _, rfl⟩
  clear h
  rw [frame141, show f 0 = _ from q0]
  clear q0
  conv => arg 2; whnf
  go_wp2_with fail
  refine Met.intro (hS_ _ _ ?_)
  exact ⟨⟨hS0, (Below.refl _ _).alloc (Nat.le_refl _) _, by simp⟩, Fr.of _ rfl ⟨rfl, trivial⟩⟩

set_option maxRecDepth 100000 in
set_option maxHeartbeats 1000000 in
theorem wt2 (n₀ : Nat) (w0 : World) : T3 Try.prog (fun a w => (Str n₀ w 0 ∧ Below n₀ w0 w ∧ n₀ + 1 ≤ w.heap.size) ∧ Fr 141 [(3, .pointer (some ⟨n₀, 0, none⟩))] a) (sel [1, 1, 0] wtB) (fun a w => ∃ (vr : Value) (rs : List RuleL) (vp : Value) (ps : List ByteArray), TW n₀ w0 67 vr rs vp ps (.slice none 0 0) [] w ∧ Fr 141 [(3, .pointer (some ⟨n₀, 0, none⟩)), (4, vr), (5, vp)] a) No 9 No := by
  refine T3.leaf ?_
  rintro Q JS JX JT K hS_ hK hX hE hT hR a w ⟨⟨hS, hbel, hz⟩, ⟨f, rfl, q3, _⟩⟩
  rw [frame141, show f 3 = _ from q3]
  clear q3
  conv => arg 2; whnf
  go_wp2_with fail
  refine (rules_any n₀ 0 _ hS (by decide)).mono ?_
  rintro e w1 ⟨vr, rs, rfl, hr5, hrok, hrr, hd⟩
  have hs1 := hd.size
  replace hbel := below_str hbel hd.gr (Nat.le_refl _) (by omega)
  replace hrr := owns_mono hrr hz
  replace hS := hd.str
  clear hd
  go_wp2_with fail
  refine (positions_any n₀ 60 _ (by simpa using hS) (by decide)).mono ?_
  rintro e w2 ⟨vp, ps, rfl, hp5, hpok, hpp, hd⟩
  have hs2 := hd.size
  replace hbel := below_str hbel hd.gr (Nat.le_refl _) (by omega)
  replace hrr := owns_drawn hrr hd (by omega)
  replace hpp := owns_mono hpp (Nat.le_trans hz hs1)
  replace hS := hd.str
  clear hd
  go_wp2_with fail
  refine Met.intro (hS_ _ _ ?_)
  exact ⟨vr, rs, vp, ps, ⟨hbel, hS, hrr, hpp, World.ownsRow_nil _ _ _ _, fun x hx => (by cases hx), hrok, hr5, hpok, hp5, fun x hx => (by cases hx), by omega⟩, Fr.of _ rfl ⟨rfl, rfl, rfl, trivial⟩⟩

set_option maxRecDepth 100000 in
set_option maxHeartbeats 1000000 in
theorem wt3 (n₀ : Nat) (w0 : World) : T3 Try.prog (fun a w => ∃ (vr : Value) (rs : List RuleL) (vp : Value) (ps : List ByteArray), TW n₀ w0 67 vr rs vp ps (.slice none 0 0) [] w ∧ Fr 141 [(3, .pointer (some ⟨n₀, 0, none⟩)), (4, vr), (5, vp)] a) (sel [1, 1, 1, 0] wtB) (fun a w => ∃ (vr : Value) (rs : List RuleL) (vp : Value) (ps : List ByteArray) (vx : Value) (ls : List LineL), ls = [] ∧ TW n₀ w0 (67) vr rs vp ps vx ls w ∧ Fr 141 [(3, .pointer (some ⟨n₀, 0, none⟩)), (4, vr), (5, vp), (6, vx)] a) No 9 No := by
  refine T3.leaf ?_
  rintro Q JS JX JT K hS hK hX hE hT hR a w ⟨vr, rs, vp, ps, hT_, ⟨f, rfl, q3, q4, q5, _⟩⟩
  rw [frame141, show f 3 = _ from q3, show f 4 = _ from q4, show f 5 = _ from q5]
  clear q3 q4 q5
  conv => arg 2; whnf
  go_wp2_with fail
  refine Met.intro (hS _ _ ?_)
  exact ⟨vr, rs, vp, ps, _, [], rfl, hT_, Fr.of _ rfl ⟨rfl, rfl, rfl, rfl, trivial⟩⟩

set_option maxRecDepth 100000 in
set_option maxHeartbeats 1000000 in
theorem wt4 (n₀ : Nat) (w0 : World) : T3 Try.prog (fun a w => ∃ (vr : Value) (rs : List RuleL) (vp : Value) (ps : List ByteArray) (vx : Value) (ls : List LineL), ls = [] ∧ TW n₀ w0 (67) vr rs vp ps vx ls w ∧ Fr 141 [(3, .pointer (some ⟨n₀, 0, none⟩)), (4, vr), (5, vp), (6, vx)] a) (sel [1, 1, 1, 1, 0] wtB) (fun a w => ∃ (vr : Value) (rs : List RuleL) (vp : Value) (ps : List ByteArray) (vx : Value) (ls : List LineL), ls = [] ∧ TW n₀ w0 (67) vr rs vp ps vx ls w ∧ Fr 141 [(7, .int .i64 0), (3, .pointer (some ⟨n₀, 0, none⟩)), (4, vr), (5, vp), (6, vx)] a) No 9 No := by
  refine T3.leaf ?_
  rintro Q JS JX JT K hS hK hX hE hT hR a w ⟨vr, rs, vp, ps, vx, ls, hl, hT_, ⟨f, rfl, q3, q4, q5, q6, _⟩⟩
  rw [frame141, show f 3 = _ from q3, show f 4 = _ from q4, show f 5 = _ from q5, show f 6 = _ from q6]
  clear q3 q4 q5 q6
  conv => arg 2; whnf
  go_wp2_with fail
  refine Met.intro (hS _ _ ?_)
  exact ⟨vr, rs, vp, ps, vx, ls, hl, hT_, Fr.of _ rfl ⟨rfl, rfl, rfl, rfl, rfl, trivial⟩⟩

def wtI (n₀ : Nat) (w0 : World) (m k : Int) (a : Act) (w : World) : Prop := ∃ week : Int, ∃ (vr : Value) (rs : List RuleL) (vp : Value) (ps : List ByteArray) (vx : Value) (ls : List LineL), ((ls.length : Int) = k) ∧ ((0 ≤ k ∧ k ≤ m ∧ m ≤ 5)) ∧ TW n₀ w0 (70 + 20 * k.toNat) vr rs vp ps vx ls w ∧ Fr 141 [(25, .int .i64 m), (26, .int .i64 k), (7, .int .i64 week), (3, .pointer (some ⟨n₀, 0, none⟩)), (4, vr), (5, vp), (6, vx)] a
set_option maxRecDepth 100000 in
set_option maxHeartbeats 1000000 in
theorem wt5 (n₀ : Nat) (w0 : World) : T3 Try.prog (fun a w => ∃ (vr : Value) (rs : List RuleL) (vp : Value) (ps : List ByteArray) (vx : Value) (ls : List LineL), ls = [] ∧ TW n₀ w0 (67) vr rs vp ps vx ls w ∧ Fr 141 [(7, .int .i64 0), (3, .pointer (some ⟨n₀, 0, none⟩)), (4, vr), (5, vp), (6, vx)] a) (sel [1, 1, 1, 1, 1, 0, 0] wtB) (fun a w => ∃ m, wtI n₀ w0 m 0 a w) No 9 No := by
  refine T3.leaf ?_
  rintro Q JS JX JT K hS hK hX hE hT hR a w ⟨vr, rs, vp, ps, vx, ls, rfl, hT_, ⟨f, rfl, q7, q3, q4, q5, q6, _⟩⟩
  rw [frame141, show f 7 = _ from q7, show f 3 = _ from q3, show f 4 = _ from q4, show f 5 = _ from q5, show f 6 = _ from q6]
  clear q7 q3 q4 q5 q6
  conv => arg 2; whnf
  go_wp2_with fail
  refine (range_d n₀ 67 0 5 _ hT_.str rfl (by decide)).mono ?_
  rintro e w1 ⟨m, rfl, hm, hd⟩
  replace hT_ := hT_.drawn hd
  clear hd
  go_wp2_with fail
  refine Met.intro (hS _ _ ?_)
  exact ⟨m, 0, vr, rs, vp, ps, vx, [], rfl, ⟨by omega, by omega, by omega⟩, hT_.mono (by omega), Fr.of _ rfl ⟨rfl, rfl, rfl, rfl, rfl, rfl, rfl, trivial⟩⟩

set_option maxRecDepth 100000 in
set_option maxHeartbeats 1000000 in
theorem wt6 (n₀ : Nat) (w0 : World) (m k : Int) : T3 Try.prog (fun a w => wtI n₀ w0 m k a w) (sel [1, 1, 1, 1, 1, 0, 1, 4, 4, 0] wtB) (fun a w => ∃ q, Fr 141 ((27, .bool q) :: [(26, .int .i64 k)]) a ∧ ((q = true ↔ k < m) ∧ wtI n₀ w0 m k a w)) No 9 No := by
  refine T3.leaf ?_
  rintro Q JS JX JT K hS hK hX hE hT hR a w ⟨week, vr, rs, vp, ps, vx, ls, hlen, hk, hT_, ⟨f, rfl, q25, q26, q7, q3, q4, q5, q6, _⟩⟩
  rw [frame141, show f 25 = _ from q25, show f 26 = _ from q26, show f 7 = _ from q7, show f 3 = _ from q3, show f 4 = _ from q4, show f 5 = _ from q5, show f 6 = _ from q6]
  clear q25 q26 q7 q3 q4 q5 q6
  conv => arg 2; whnf
  by_cases hlt : k < m
  · go_wp2_with fail
    refine Met.intro (hS _ _ ?_)
    exact ⟨true, Fr.of _ rfl ⟨rfl, rfl, trivial⟩, ⟨fun _ => hlt, fun _ => rfl⟩, week, vr, rs, vp, ps, vx, ls, hlen, hk, hT_, Fr.of _ rfl ⟨rfl, rfl, rfl, rfl, rfl, rfl, rfl, trivial⟩⟩
  · have hpb : decide (k < m) = false := by simp; omega
    go_wp2_with fail
    refine Met.intro (hS _ _ ?_)
    exact ⟨false, Fr.of _ rfl ⟨rfl, rfl, trivial⟩, ⟨(fun h => by cases h), fun h => absurd h (by omega)⟩, week, vr, rs, vp, ps, vx, ls, hlen, hk, hT_, Fr.of _ rfl ⟨rfl, rfl, rfl, rfl, rfl, rfl, rfl, trivial⟩⟩

set_option maxRecDepth 100000 in
set_option maxHeartbeats 1000000 in
theorem wt7 (n₀ : Nat) (w0 : World) (m k : Int) : T3 Try.prog (fun a w => ∃ week : Int, ∃ (vr : Value) (rs : List RuleL) (vp : Value) (ps : List ByteArray) (vx : Value) (ls : List LineL), ((ls.length : Int) = k) ∧ (0 ≤ k ∧ k < m ∧ m ≤ 5) ∧ TW n₀ w0 (70 + 20 * k.toNat) vr rs vp ps vx ls w ∧ Fr 141 [(25, .int .i64 m), (26, .int .i64 k), (7, .int .i64 week), (3, .pointer (some ⟨n₀, 0, none⟩)), (4, vr), (5, vp), (6, vx)] a) (sel [1, 1, 1, 1, 1, 0, 1, 4, 4, 1, 1, 0, 4, 0] wtB) (fun a w => ∃ week : Int, ∃ (vr : Value) (rs : List RuleL) (vp : Value) (ps : List ByteArray) (vx : Value) (ls : List LineL), ((ls.length : Int) = k) ∧ (0 ≤ k ∧ k < m ∧ m ≤ 5) ∧ TW n₀ w0 (71 + 20 * k.toNat) vr rs vp ps vx ls w ∧ Fr 141 [(25, .int .i64 m), (26, .int .i64 k), (7, .int .i64 week), (3, .pointer (some ⟨n₀, 0, none⟩)), (4, vr), (5, vp), (6, vx)] a) No 9 No := by
  refine T3.leaf ?_
  rintro Q JS JX JT K hS hK hX hE hT hR a w ⟨week, vr, rs, vp, ps, vx, ls, hlen, hk, hT_, ⟨f, rfl, q25, q26, q7, q3, q4, q5, q6, _⟩⟩
  rw [frame141, show f 25 = _ from q25, show f 26 = _ from q26, show f 7 = _ from q7, show f 3 = _ from q3, show f 4 = _ from q4, show f 5 = _ from q5, show f 6 = _ from q6]
  clear q25 q26 q7 q3 q4 q5 q6
  conv => arg 2; whnf
  obtain ⟨hk0, hk1, hk2⟩ := hk
  go_wp2_with fail
  refine (pick_lit n₀ _ [1, 1, 2] 3 _ _ _ rfl rfl (by decide) (by decide) hT_.str (by omega)).mono ?_
  rintro e w1 ⟨d, rfl, hm, hd⟩
  replace hT_ := hT_.drawn hd
  clear hd
  go_wp2_with fail
  refine Met.intro (hS _ _ ?_)
  exact ⟨_, vr, rs, vp, ps, vx, ls, hlen, ⟨hk0, hk1, hk2⟩, hT_.mono (by omega), Fr.of _ rfl ⟨rfl, rfl, rfl, rfl, rfl, rfl, rfl, trivial⟩⟩

set_option maxRecDepth 100000 in
set_option maxHeartbeats 1000000 in
theorem wt8 (n₀ : Nat) (w0 : World) (m k : Int) : T3 Try.prog (fun a w => ∃ week : Int, ∃ (vr : Value) (rs : List RuleL) (vp : Value) (ps : List ByteArray) (vx : Value) (ls : List LineL), ((ls.length : Int) = k) ∧ (0 ≤ k ∧ k < m ∧ m ≤ 5) ∧ TW n₀ w0 (71 + 20 * k.toNat) vr rs vp ps vx ls w ∧ Fr 141 [(25, .int .i64 m), (26, .int .i64 k), (7, .int .i64 week), (3, .pointer (some ⟨n₀, 0, none⟩)), (4, vr), (5, vp), (6, vx)] a) (sel [1, 1, 1, 1, 1, 0, 1, 4, 4, 1, 1, 0, 4, 1, 0, 0] wtB) (fun a w => ∃ q, ∃ week : Int, ∃ (vr : Value) (rs : List RuleL) (vp : Value) (ps : List ByteArray) (vx : Value) (ls : List LineL), ((ls.length : Int) = k) ∧ (0 ≤ k ∧ k < m ∧ m ≤ 5) ∧ TW n₀ w0 (72 + 20 * k.toNat) vr rs vp ps vx ls w ∧ Fr 141 [(34, .bool q), (25, .int .i64 m), (26, .int .i64 k), (7, .int .i64 week), (3, .pointer (some ⟨n₀, 0, none⟩)), (4, vr), (5, vp), (6, vx)] a) No 9 No := by
  refine T3.leaf ?_
  rintro Q JS JX JT K hS hK hX hE hT hR a w ⟨week, vr, rs, vp, ps, vx, ls, hlen, hk, hT_, ⟨f, rfl, q25, q26, q7, q3, q4, q5, q6, _⟩⟩
  rw [frame141, show f 25 = _ from q25, show f 26 = _ from q26, show f 7 = _ from q7, show f 3 = _ from q3, show f 4 = _ from q4, show f 5 = _ from q5, show f 6 = _ from q6]
  clear q25 q26 q7 q3 q4 q5 q6
  conv => arg 2; whnf
  obtain ⟨hk0, hk1, hk2⟩ := hk
  go_wp2_with fail
  refine (flip_d n₀ _ _ _ hT_.str rfl (by omega)).mono ?_
  rintro e w1 ⟨q, rfl, hd⟩
  replace hT_ := hT_.drawn hd
  clear hd
  go_wp2_with fail
  refine Met.intro (hS _ _ ?_)
  exact ⟨q, _, vr, rs, vp, ps, vx, ls, hlen, ⟨hk0, hk1, hk2⟩, hT_.mono (by omega), Fr.of _ rfl ⟨rfl, rfl, rfl, rfl, rfl, rfl, rfl, rfl, trivial⟩⟩

set_option maxRecDepth 100000 in
set_option maxHeartbeats 1000000 in
theorem wt9 (n₀ : Nat) (w0 : World) (m k : Int) : T3 Try.prog (fun a w => ∃ week : Int, ∃ (vr : Value) (rs : List RuleL) (vp : Value) (ps : List ByteArray) (vx : Value) (ls : List LineL), ((ls.length : Int) = k) ∧ (0 ≤ k ∧ k < m ∧ m ≤ 5) ∧ TW n₀ w0 (72 + 20 * k.toNat) vr rs vp ps vx ls w ∧ Fr 141 [(34, .bool true), (25, .int .i64 m), (26, .int .i64 k), (7, .int .i64 week), (3, .pointer (some ⟨n₀, 0, none⟩)), (4, vr), (5, vp), (6, vx)] a) (sel [1, 1, 1, 1, 1, 0, 1, 4, 4, 1, 1, 0, 4, 1, 0, 1, 2] wtB) (fun a w => ∃ week : Int, ∃ (vr : Value) (rs : List RuleL) (vp : Value) (ps : List ByteArray) (vx : Value) (ls : List LineL), ((ls.length : Int) = k) ∧ (0 ≤ k ∧ k < m ∧ m ≤ 5) ∧ TW n₀ w0 (72 + 20 * k.toNat) vr rs vp ps vx ls w ∧ Fr 141 [(25, .int .i64 m), (26, .int .i64 k), (7, .int .i64 week), (3, .pointer (some ⟨n₀, 0, none⟩)), (4, vr), (5, vp), (6, vx)] a) No 9 No := by
  refine T3.leaf ?_
  rintro Q JS JX JT K hS hK hX hE hT hR a w ⟨week, vr, rs, vp, ps, vx, ls, hlen, hk, hT_, ⟨f, rfl, q34, q25, q26, q7, q3, q4, q5, q6, _⟩⟩
  rw [frame141, show f 34 = _ from q34, show f 25 = _ from q25, show f 26 = _ from q26, show f 7 = _ from q7, show f 3 = _ from q3, show f 4 = _ from q4, show f 5 = _ from q5, show f 6 = _ from q6]
  clear q34 q25 q26 q7 q3 q4 q5 q6
  conv => arg 2; whnf
  go_wp2_with fail
  refine Met.intro (hS _ _ ?_)
  exact ⟨_, vr, rs, vp, ps, vx, ls, hlen, hk, hT_, Fr.of _ rfl ⟨rfl, rfl, rfl, rfl, rfl, rfl, rfl, trivial⟩⟩

set_option maxRecDepth 100000 in
set_option maxHeartbeats 1000000 in
theorem wt10 (n₀ : Nat) (w0 : World) (m k : Int) : T3 Try.prog (fun a w => ∃ week : Int, ∃ (vr : Value) (rs : List RuleL) (vp : Value) (ps : List ByteArray) (vx : Value) (ls : List LineL), ((ls.length : Int) = k) ∧ (0 ≤ k ∧ k < m ∧ m ≤ 5) ∧ TW n₀ w0 (72 + 20 * k.toNat) vr rs vp ps vx ls w ∧ Fr 141 [(25, .int .i64 m), (26, .int .i64 k), (7, .int .i64 week), (3, .pointer (some ⟨n₀, 0, none⟩)), (4, vr), (5, vp), (6, vx)] a) (sel [1, 1, 1, 1, 1, 0, 1, 4, 4, 1, 1, 0, 4, 1, 1] wtB) (fun a w => ∃ week : Int, ∃ (vr : Value) (rs : List RuleL) (vp : Value) (ps : List ByteArray) (vx : Value) (ls : List LineL), ((ls.length : Int) = k + 1) ∧ (0 ≤ k ∧ k < m ∧ m ≤ 5) ∧ TW n₀ w0 (90 + 20 * k.toNat) vr rs vp ps vx ls w ∧ Fr 141 [(25, .int .i64 m), (26, .int .i64 k), (7, .int .i64 week), (3, .pointer (some ⟨n₀, 0, none⟩)), (4, vr), (5, vp), (6, vx)] a) No 9 No := by
  refine T3.leaf ?_
  rintro Q JS JX JT K hS hK hX hE hT hR a w ⟨week, vr, rs, vp, ps, vx, ls, hlen, hk, hT_, ⟨f, rfl, q25, q26, q7, q3, q4, q5, q6, _⟩⟩
  obtain ⟨p1, c1, hv1⟩ := (Row.of_owns hT_.xx).shape
  subst hv1
  rw [frame141, show f 25 = _ from q25, show f 26 = _ from q26, show f 7 = _ from q7, show f 3 = _ from q3, show f 4 = _ from q4, show f 5 = _ from q5, show f 6 = _ from q6]
  clear q25 q26 q7 q3 q4 q5 q6
  conv => arg 2; whnf
  obtain ⟨hk0, hk1, hk2⟩ := hk
  have hE := el_line
  have hzz := hT_.hz
  go_wp2_with fail
  refine (aline_any n₀ _ _ _ hT_.str (by omega)).mono ?_
  rintro e w1 ⟨p, wk, sv, ts, rfl, hso, hs5, hsm, hpm, hd⟩
  replace hT_ := hT_.drawn hd
  replace hso := owns_mono hso hzz
  clear hd hzz
  have hzz := hT_.hz
  obtain ⟨p4, c4, hv4⟩ := (Row.of_owns hso).shape
  subst hv4
  go_wp2_with (at_builtin; refine app_law rfl _ _ _ rfl hE (hT_.xx.alloc _) rfl [.string p, .int .i64 wk, .slice p4 ts.length c4] rfl rfl (cells_new _ #[_, _, _] _) (by simp [Value.oneCell']) (by omega) (by simp; omega) ?_; intro v' w3 hown3 hgr)
  refine Met.intro (hS _ _ ?_)
  have hA := (hT_.alloc (.cells #[.string p, .int .i64 wk, .slice p4 ts.length c4] 36)).app (x := ⟨p, wk, .slice p4 ts.length c4, ts⟩) (v' := v') (w' := w3) (hso.alloc _) ⟨hpm.le, fun t ht => (hsm t ht).le⟩ (by rw [cellsOf_snoc, List.length_append]; exact hown3) hgr
  exact ⟨week, vr, rs, vp, ps, v', _, by simp; omega, ⟨hk0, hk1, hk2⟩, hA.mono (by omega), Fr.of _ rfl ⟨rfl, rfl, rfl, rfl, rfl, rfl, rfl, trivial⟩⟩

set_option maxRecDepth 100000 in
set_option maxHeartbeats 1000000 in
theorem wt11 (n₀ : Nat) (w0 : World) (m k : Int) : T3 Try.prog (fun a w => ∃ week : Int, ∃ (vr : Value) (rs : List RuleL) (vp : Value) (ps : List ByteArray) (vx : Value) (ls : List LineL), ((ls.length : Int) = k + 1) ∧ (0 ≤ k ∧ k < m ∧ m ≤ 5) ∧ TW n₀ w0 (90 + 20 * k.toNat) vr rs vp ps vx ls w ∧ Fr 141 [(25, .int .i64 m), (26, .int .i64 k), (7, .int .i64 week), (3, .pointer (some ⟨n₀, 0, none⟩)), (4, vr), (5, vp), (6, vx)] a) (sel [1, 1, 1, 1, 1, 0, 1, 4, 4, 1, 1, 1] wtB) (fun a w => wtI n₀ w0 m (k + 1) a w) No 9 No := by
  refine T3.leaf ?_
  rintro Q JS JX JT K hS hK hX hE hT hR a w ⟨week, vr, rs, vp, ps, vx, ls, hlen, hk, hT_, ⟨f, rfl, q25, q26, q7, q3, q4, q5, q6, _⟩⟩
  rw [frame141, show f 25 = _ from q25, show f 26 = _ from q26, show f 7 = _ from q7, show f 3 = _ from q3, show f 4 = _ from q4, show f 5 = _ from q5, show f 6 = _ from q6]
  clear q25 q26 q7 q3 q4 q5 q6
  conv => arg 2; whnf
  obtain ⟨hk0, hk1, hk2⟩ := hk
  go_wp2_with fail
  refine Met.intro (hS _ _ ?_)
  exact ⟨week, vr, rs, vp, ps, vx, ls, hlen, ⟨by omega, by omega, hk2⟩, hT_.mono (by omega), Fr.of _ rfl ⟨rfl, rfl, rfl, rfl, rfl, rfl, rfl, trivial⟩⟩

end Go.Proofs.Ytbidnbcclibigaa
