/-
  The law BracketsMade: its walk from end to end. No condition.
-/
import Derived.Test.YtkcjklgbadekjaaBLg
import Derived.Test.YtkcjklgbadekjaaBLh
import Derived.Test.YtkcjklgbadekjaaBLi
namespace Go.Proofs.Ytkcjklgbadekjaa
open Go.RowKit Go.Bw

set_option maxRecDepth 100000 in
set_option maxHeartbeats 1000000 in
theorem brackets_law (v : Value) (n : Nat) (zs : List Int) (w0 : World) (h : SRow w0 v n zs w0.heap.size) :
    Calls Try.prog 3 #[v] w0 fun e w' => e = .returned (.bool true) ∧ Below w0.heap.size w0 w' := by
  have hlast : ∀ (n₀ : Nat) (s7 : Value) (l7 : List Int) (many a1 a2 : Int) (b m : Nat) (a : Act) (w : World), B3 n₀ w0 many a1 a2 s7 l7 b m [] a w → ∃ (s8 : Value) (l8 : List Int), l8.length ≤ m ∧ T4 n₀ w0 [(s7, 1, l7.length, l7.map (.int .i64)), (s8, 1, l8.length, l8.map (.int .i64))] [(4, .int .i64 many), (5, .int .i64 a1), (6, .int .i64 a2), (7, s7), (8, s8)] a w := by
    rintro n₀ s7 l7 many a1 a2 b m a w ⟨B', s8, l8, hl, hG, hH, hF⟩
    exact ⟨s8, l8, hl, hG.bel, hG.str.lt, ⟨hH.row, (Row.of_owns hG.row).mono (Nat.zero_le _), trivial⟩, hF.tail⟩
  go_enter Try.func3, Try.ntmps3
  refine wp_tri (s := (sel [0] bm)) (c := (sel [1] bm)) (bl0 v w0) ⟨Fr.of _ rfl ⟨rfl, trivial⟩, rfl⟩ fun a w hr => ?_
  refine wp_tri (s := (sel [1, 0] bm)) (c := (sel [1, 1] bm)) (bl1 v n zs w0 h) hr fun a w hr => ?_
  refine wp_tri (s := (sel [1, 1, 0] bm)) (c := (sel [1, 1, 1] bm)) (bl2 _ w0) hr fun a w hr => ?_
  obtain ⟨many, a1, a2, hF, hm, hS, hb⟩ := hr
  refine wp_tri (s := (sel [1, 1, 1, 0] bm)) (c := (sel [1, 1, 1, 1] bm)) (bl3' _ w0 many a1 a2) ⟨hF, hS, hb⟩ fun a w hr => ?_
  refine wp_tri (s := (sel [1, 1, 1, 1, 0] bm)) (c := (sel [1, 1, 1, 1, 1] bm)) (blS4 _ w0 many a1 a2) hr fun a w hr => ?_
  refine wp_tri (s := (sel [1, 1, 1, 1, 1, 0] bm)) (c := (sel [1, 1, 1, 1, 1, 1] bm)) (blS5 _ w0 many a1 a2) hr fun a w hr => ?_
  refine wp_tri (s := (sel [1, 1, 1, 1, 1, 1, 0] bm)) (c := (sel [1, 1, 1, 1, 1, 1, 1] bm)) (blS6 _ w0 many a1 a2) hr fun a w hr => ?_
  refine wp_tri (s := (sel [1, 1, 1, 1, 1, 1, 1, 0] bm)) (c := (sel [1, 1, 1, 1, 1, 1, 1, 1] bm)) (blS7 _ w0 many a1 a2) hr fun a w hr => ?_
  obtain ⟨s7, l7, h7, m, hr⟩ := hr
  replace h7 := Nat.le_trans h7 (show 41 ≤ 50 by decide)
  refine wp_tri (s := (sel [1, 1, 1, 1, 1, 1, 1, 1, 0] bm)) (c := (sel [1, 1, 1, 1, 1, 1, 1, 1, 1] bm)) (blS8 _ w0 many a1 a2 s7 l7 m) hr fun a w hr => ?_
  obtain ⟨s8, l8, h8, hr⟩ := hlast _ s7 l7 _ _ _ _ _ _ _ hr
  replace h8 := Nat.le_trans h8 (show 11 ≤ 50 by decide)
  refine wp_tri (s := (sel [1, 1, 1, 1, 1, 1, 1, 1, 1, 0] bm)) (c := (sel [1, 1, 1, 1, 1, 1, 1, 1, 1, 1] bm)) (bt32 _ w0 many a1 a2 s7 l7 s8 l8 h7 h8) hr fun a w hr => ?_
  obtain ⟨v15, hr⟩ := hr
  refine wp_tri (s := (sel [1, 1, 1, 1, 1, 1, 1, 1, 1, 1, 0] bm)) (c := (sel [1, 1, 1, 1, 1, 1, 1, 1, 1, 1, 1] bm)) (bt33 _ w0 many a1 a2 s7 l7 s8 l8 h7 h8 v15) hr fun a w hr => ?_
  obtain ⟨v17, hr⟩ := hr
  refine wp_tri (s := (sel [1, 1, 1, 1, 1, 1, 1, 1, 1, 1, 1, 0] bm)) (c := (sel [1, 1, 1, 1, 1, 1, 1, 1, 1, 1, 1, 1] bm)) (bt34 _ w0 many a1 a2 s7 l7 s8 l8 h7 h8 v15 v17) hr fun a w hr => ?_
  obtain ⟨v19, hr⟩ := hr
  refine wp_tri (s := (sel [1, 1, 1, 1, 1, 1, 1, 1, 1, 1, 1, 1, 0] bm)) (c := (sel [1, 1, 1, 1, 1, 1, 1, 1, 1, 1, 1, 1, 1] bm)) (bt35 _ w0 many a1 a2 s7 l7 s8 l8 h7 h8 v15 v17 v19) hr fun a w hr => ?_
  refine wp_tri (s := (sel [1, 1, 1, 1, 1, 1, 1, 1, 1, 1, 1, 1, 1, 0] bm)) (c := (sel [1, 1, 1, 1, 1, 1, 1, 1, 1, 1, 1, 1, 1, 1] bm)) (bt36 _ w0 many a1 a2 s7 l7 s8 l8 h7 h8 v15 v17 v19) hr fun a w hr => ?_
  refine wp_tri (s := (sel [1, 1, 1, 1, 1, 1, 1, 1, 1, 1, 1, 1, 1, 1, 0] bm)) (c := (sel [1, 1, 1, 1, 1, 1, 1, 1, 1, 1, 1, 1, 1, 1, 1] bm)) (bt37 _ w0 many a1 a2 s7 l7 s8 l8 h7 h8 v15 v17 v19) hr fun a w hr => ?_
  refine wp_tri (s := (sel [1, 1, 1, 1, 1, 1, 1, 1, 1, 1, 1, 1, 1, 1, 1, 0] bm)) (c := (sel [1, 1, 1, 1, 1, 1, 1, 1, 1, 1, 1, 1, 1, 1, 1, 1] bm)) (bt38 _ w0 many a1 a2 s7 l7 s8 l8 h7 h8 v15 v17 v19) hr fun a w hr => ?_
  refine wp_tri (s := (sel [1, 1, 1, 1, 1, 1, 1, 1, 1, 1, 1, 1, 1, 1, 1, 1, 0] bm)) (c := (sel [1, 1, 1, 1, 1, 1, 1, 1, 1, 1, 1, 1, 1, 1, 1, 1, 1] bm)) (bt39 _ w0 many a1 a2 s7 l7 s8 l8 h7 h8 v15 v17 v19) hr fun a w hr => ?_
  refine wp_tri (s := (sel [1, 1, 1, 1, 1, 1, 1, 1, 1, 1, 1, 1, 1, 1, 1, 1, 1, 0] bm)) (c := (sel [1, 1, 1, 1, 1, 1, 1, 1, 1, 1, 1, 1, 1, 1, 1, 1, 1, 1] bm)) (bt40 _ w0 many a1 a2 s7 l7 s8 l8 h7 h8 v15 v17 v19) hr fun a w hr => ?_
  obtain ⟨v26, hr⟩ := hr
  refine wp_tri (s := (sel [1, 1, 1, 1, 1, 1, 1, 1, 1, 1, 1, 1, 1, 1, 1, 1, 1, 1, 0] bm)) (c := (sel [1, 1, 1, 1, 1, 1, 1, 1, 1, 1, 1, 1, 1, 1, 1, 1, 1, 1, 1] bm)) (bt42 _ w0 many a1 a2 s7 l7 s8 l8 h7 h8 v15 v17 v19 v26) hr fun a w hr => ?_
  obtain ⟨v28, hr⟩ := hr
  refine wp_tri (s := (sel [1, 1, 1, 1, 1, 1, 1, 1, 1, 1, 1, 1, 1, 1, 1, 1, 1, 1, 1, 0] bm)) (c := (sel [1, 1, 1, 1, 1, 1, 1, 1, 1, 1, 1, 1, 1, 1, 1, 1, 1, 1, 1, 1] bm)) (bt43 _ w0 many a1 a2 s7 l7 s8 l8 h7 h8 v15 v17 v19 v26 v28) hr fun a w hr => ?_
  obtain ⟨v30, hr⟩ := hr
  refine wp_tri (s := (sel [1, 1, 1, 1, 1, 1, 1, 1, 1, 1, 1, 1, 1, 1, 1, 1, 1, 1, 1, 1, 0] bm)) (c := (sel [1, 1, 1, 1, 1, 1, 1, 1, 1, 1, 1, 1, 1, 1, 1, 1, 1, 1, 1, 1, 1] bm)) (bt44 _ w0 many a1 a2 s7 l7 s8 l8 h7 h8 v15 v17 v19 v26 v28 v30) hr fun a w hr => ?_
  refine wp_seq (x := (sel [1, 1, 1, 1, 1, 1, 1, 1, 1, 1, 1, 1, 1, 1, 1, 1, 1, 1, 1, 1, 1, 0] bm)) (y := (sel [1, 1, 1, 1, 1, 1, 1, 1, 1, 1, 1, 1, 1, 1, 1, 1, 1, 1, 1, 1, 1, 1] bm)) (bt45 _ w0 many a1 a2 s7 l7 s8 l8 h7 h8 v15 v17 v19 v26 v28 v30 a w _ hr ?_)
  rintro a w ⟨hb, f, rfl, q2, _⟩
  show Code.wp _ (sel [1, 1, 1, 1, 1, 1, 1, 1, 1, 1, 1, 1, 1, 1, 1, 1, 1, 1, 1, 1, 1, 1] bm) _ _ _
  rw [frame242, show f 2 = .bool true from q2]
  clear q2
  conv => arg 2; whnf
  go_wp2
  go_ret
  exact ⟨rfl, hb⟩
end Go.Proofs.Ytkcjklgbadekjaa
