/-
  Contracts and lemmas towards the statement, of several parts; each part says ahead of it what it holds and under which conditions.
-/
import Derived.Test.YtkdimgghljklmaaMg10
import Derived.Test.YtkdimgghljklmaaMg8
import Derived.Lib.MinMax
/-
  The law FinalsPlayed: seeds, rounds and legs that the stream hands out. No condition.
-/
set_option linter.unusedVariables false
namespace Go.Bw
open Go.RowKit
theorem owns_first {w : World} {base e n g cap k : Nat} {xs : List Value} (h : w.ownsRow base e 1 (.slice (some ⟨g, 0, none⟩) n cap) n xs) (hk : k ≤ n) : w.ownsRow base e 1 (.slice (some ⟨g, 0, none⟩) k cap) k (xs.take k) := by
  refine ⟨by have := h.1; rw [List.length_take]; omega, ?_⟩
  rcases h.2 with ⟨h0, _⟩ | ⟨g', cap', cur, hv, hb, hg, hn, hc, hs, ht⟩
  · cases h0
  · simp only [Value.slice.injEq, Option.some.injEq, Addr.mk.injEq] at hv
    obtain ⟨⟨rfl, _⟩, _, rfl⟩ := hv
    refine .inr ⟨g, cap, cur, rfl, hb, hg, by omega, hc, hs, ?_⟩
    rw [← ht, List.take_take]
    congr 1
    omega
end Go.Bw
namespace Go.Proofs.Ytkdimgghljklmaa
open Go.RowKit Go.Bw
def seedL : List ByteArray := [⟨#[116, 99]⟩, ⟨#[116, 97]⟩, ⟨#[116, 101]⟩, ⟨#[116, 98]⟩, ⟨#[116, 100]⟩, ⟨#[116, 102]⟩]
theorem seedL_sm (k : Nat) : SmAll (seedL.take k) := by
  intro s hs
  have := List.mem_of_mem_take hs
  simp [seedL] at this
  rcases this with rfl | rfl | rfl | rfl | rfl | rfl <;> decide
noncomputable def fwB : Code := (Try.f4.body).getD .skip
set_option maxRecDepth 100000 in
theorem fr_fwB (f : Nat → Value) : frame 115 f = ⟨#[f 0, f 1, f 2, f 3, f 4, f 5, f 6, f 7, f 8, f 9, f 10, f 11, f 12, f 13, f 14, f 15, f 16, f 17, f 18, f 19, f 20, f 21, f 22, f 23, f 24, f 25, f 26, f 27, f 28, f 29, f 30, f 31, f 32, f 33, f 34, f 35, f 36, f 37, f 38, f 39, f 40, f 41, f 42, f 43, f 44, f 45, f 46, f 47, f 48, f 49, f 50, f 51, f 52, f 53, f 54, f 55, f 56, f 57, f 58, f 59, f 60, f 61, f 62, f 63, f 64, f 65, f 66, f 67, f 68, f 69, f 70, f 71, f 72, f 73, f 74, f 75, f 76, f 77, f 78, f 79, f 80, f 81, f 82, f 83, f 84, f 85, f 86, f 87, f 88, f 89, f 90, f 91, f 92, f 93, f 94, f 95, f 96, f 97, f 98, f 99, f 100, f 101, f 102, f 103, f 104, f 105, f 106, f 107, f 108, f 109, f 110, f 111, f 112, f 113, f 114], []⟩ := by rfl
theorem str_newF (w : World) (v : Value) (n : Nat) (zs : List Int) (e : TypeId) (h : SRow w v n zs w.heap.size) : Str w.heap.size (w.alloc (.cells #[v, .int .i64 0] e)) 0 := by
  refine ⟨v, n, zs, 0, ?_, ?_, ?_, by omega, by simp, h.swap (fun k hk => (World.grownBy_alloc w _ none).block k hk (by simp)) (by simp)⟩
  · rw [World.cell?_alloc_at _ _ _ _ rfl]; rfl
  · rw [World.cell?_alloc_at _ _ _ _ rfl]; rfl
  · exact frozen_new0 w #[v, .int .i64 0] e 1
/-- Seeds that the law owns. -/
structure SO (n₀ M b : Nat) (w0 : World) (v : Value) (ts : List ByteArray) (w : World) : Prop where
  bel : Below n₀ w0 w
  s : Str n₀ w b
  hM : n₀ < M
  hs : M ≤ w.heap.size
  o : w.ownsRow M 9 1 v ts.length (cellsOf encSt ts)
/-- And rounds. -/
structure SB (n₀ M b nn : Nat) (w0 : World) (v4 : Value) (ts : List ByteArray) (v5 : Value) (rs : List (List ByteArray)) (vs : List Value) (w : World) : Prop where
  bel : Below n₀ w0 w
  s : Str n₀ w b
  hM : n₀ < M
  hs : M ≤ w.heap.size
  h : Held n₀ M w 1 ts.length v4 (cellsOf encSt ts)
  o : w.ownsRow M 26 1 v5 rs.length vs
  i : ∀ k u, vs[k]? = some u → RHd 9 n₀ w.heap.size w (wsAt rs k).length u (cellsOf encSt (wsAt rs k))
  n : rs.length ≤ nn
  m : ∀ k, (wsAt rs k).length ≤ 40
/-- And legs. -/
structure SC (n₀ B b : Nat) (w0 : World) (v4 : Value) (ts : List ByteArray) (v5 : Value) (rs : List (List ByteArray)) (vs : List Value) (v6 : Value) (xs : List (Int × Int)) (v7 : Value) (ys : List (Int × Int)) (w : World) : Prop where
  bel : Below n₀ w0 w
  s : Str n₀ w b
  hB : n₀ < B
  hs : B ≤ w.heap.size
  h4 : Held n₀ B w 1 ts.length v4 (cellsOf encSt ts)
  h5 : Held n₀ B w 1 rs.length v5 vs
  hi : ∀ k u, vs[k]? = some u → Held n₀ B w 1 (wsAt rs k).length u (cellsOf encSt (wsAt rs k))
  rx : w.ownsRow B 37 2 v6 xs.length (cells2 xs)
  ry : w.ownsRow B 37 2 v7 ys.length (cells2 ys)
  ne : ∀ k, v6.ownBlock = some k → v7.ownBlock ≠ some k
section
variable {n₀ M B b b' nn nn' : Nat} {w0 w w' : World} {v v4 v5 v6 v7 v' : Value} {ts N : List ByteArray} {rs : List (List ByteArray)} {vs : List Value} {xs ys : List (Int × Int)}
theorem SO.drawn (h : SO n₀ M b w0 v ts w) (d : Drawn n₀ w w' b') : SO n₀ M b' w0 v ts w' := ⟨below_str h.bel d.gr (Nat.le_refl _) (by have := h.hM; have := h.hs; omega), d.str, h.hM, Nat.le_trans h.hs d.size, owns_drawn h.o d h.hM⟩
theorem SO.alloc (h : SO n₀ M b w0 v ts w) (ob : Obj) : SO n₀ M b w0 v ts (w.alloc ob) := h.drawn ((Drawn.refl h.s).alloc ob)
theorem SO.mono (h : SO n₀ M b w0 v ts w) (hb : b ≤ b') : SO n₀ M b' w0 v ts w := ⟨h.bel, h.s.mono hb, h.hM, h.hs, h.o⟩
theorem SO.app (h : SO n₀ M b w0 v ts w) {x : ByteArray} (ho : w'.ownsRow M 9 1 v' (ts.length + 1) (cellsOf encSt ts ++ [.string x])) (g : w.grownBy w' v.ownBlock) : SO n₀ M b w0 v' (ts ++ [x]) w' :=
  ⟨below_grown h.bel h.o g (Nat.le_of_lt h.hM) (by have := h.hM; have := h.hs; omega), h.s.app h.o g h.hM, h.hM, Nat.le_trans h.hs g.size, by rw [cellsOf_snoc, List.length_append]; exact ho⟩
theorem SO.clone (h : SO n₀ M b w0 v ts w) (ho : w'.ownsRow w.heap.size 9 1 v' ts.length (cellsOf encSt ts)) (g : Below w.heap.size w w') : SO n₀ w.heap.size b w0 v' ts w' :=
  ⟨h.bel.trans (g.mono (by have := h.hM; have := h.hs; omega)), h.s.below g, by have := h.hM; have := h.hs; omega, g.size, ho⟩
theorem SO.rounds (h : SO n₀ M b w0 v4 ts w) (f : FiR n₀ b' w v5 rs vs w') : SB n₀ w.heap.size b' 5 w0 v4 ts v5 rs vs w' :=
  ⟨below_str h.bel f.d.gr (Nat.le_refl _) (by have := h.hM; have := h.hs; omega), f.d.str, f.hB, f.d.size, (Held.of_owns h.o h.hM).str f.d.gr, f.o, f.i, f.n, f.m⟩
theorem SB.drawn (h : SB n₀ M b nn w0 v4 ts v5 rs vs w) (d : Drawn n₀ w w' b') : SB n₀ M b' nn w0 v4 ts v5 rs vs w' :=
  ⟨below_str h.bel d.gr (Nat.le_refl _) (by have := h.hM; have := h.hs; omega), d.str, h.hM, Nat.le_trans h.hs d.size, h.h.str d.gr, owns_drawn h.o d h.hM, fun k u hu => ((h.i k u hu).str d.gr).mono d.size, h.n, h.m⟩
theorem SB.alloc (h : SB n₀ M b nn w0 v4 ts v5 rs vs w) (ob : Obj) : SB n₀ M b nn w0 v4 ts v5 rs vs (w.alloc ob) := h.drawn ((Drawn.refl h.s).alloc ob)
theorem SB.mono (h : SB n₀ M b nn w0 v4 ts v5 rs vs w) (hb : nn ≤ nn') : SB n₀ M b nn' w0 v4 ts v5 rs vs w := ⟨h.bel, h.s, h.hM, h.hs, h.h, h.o, h.i, Nat.le_trans h.n hb, h.m⟩
theorem SB.app (h : SB n₀ M b nn w0 v4 ts v5 rs vs w) {u : Value} (hu : RHd 9 n₀ w.heap.size w N.length u (cellsOf encSt N)) (hN : N.length ≤ 40) (ho : w'.ownsRow M 26 1 v' (rs.length + 1) (vs ++ [u])) (g : w.grownBy w' v5.ownBlock) : SB n₀ M b (nn + 1) w0 v4 ts v' (rs ++ [N]) (vs ++ [u]) w' := by
  have hvl : vs.length = rs.length := by have := h.o.1; omega
  refine ⟨below_grown h.bel h.o g (Nat.le_of_lt h.hM) (by have := h.hM; have := h.hs; omega), h.s.app h.o g h.hM, h.hM, Nat.le_trans h.hs g.size, h.h.app h.o g, by rw [List.length_append]; exact ho, fun k x hx => ?_, by have := h.n; simp; omega, fun k => ?_⟩
  · rw [wsAt_app]
    by_cases hk : k < vs.length
    · rw [List.getElem?_append_left hk] at hx
      rw [if_pos (by omega)]
      exact ((h.i k x hx).other h.o (by decide) g).mono g.size
    · rw [List.getElem?_append_right (by omega)] at hx
      have hk2 : k - vs.length = 0 := by
        have := (List.getElem?_eq_some_iff.1 hx).1
        simp at this
        omega
      rw [hk2] at hx
      simp at hx
      subst hx
      rw [if_neg (by omega), if_pos (by omega)]
      exact (hu.other h.o (by decide) g).mono g.size
  · rw [wsAt_app]
    split
    · exact h.m k
    · split
      · exact hN
      · simp
theorem SB.legs (h : SB n₀ M b nn w0 v4 ts v5 rs vs w) : SC n₀ w.heap.size b w0 v4 ts v5 rs vs (.slice none 0 0) [] (.slice none 0 0) [] w :=
  ⟨h.bel, h.s, Nat.lt_of_lt_of_le h.hM h.hs, Nat.le_refl _, h.h.mono h.hs, Held.of_owns h.o h.hM, fun k u hu => ⟨(h.i k u hu).row, fun j hj => by obtain ⟨a, c, _⟩ := (h.i k u hu).lt j hj; exact ⟨a, c⟩⟩, World.ownsRow_nil _ _ _ _, World.ownsRow_nil _ _ _ _, fun k hk => by simp [Value.ownBlock] at hk⟩
theorem SC.drawn (h : SC n₀ B b w0 v4 ts v5 rs vs v6 xs v7 ys w) (d : Drawn n₀ w w' b') : SC n₀ B b' w0 v4 ts v5 rs vs v6 xs v7 ys w' :=
  ⟨below_str h.bel d.gr (Nat.le_refl _) (by have := h.hB; have := h.hs; omega), d.str, h.hB, Nat.le_trans h.hs d.size, h.h4.str d.gr, h.h5.str d.gr, fun k u hu => (h.hi k u hu).str d.gr, owns_drawn h.rx d h.hB, owns_drawn h.ry d h.hB, h.ne⟩
theorem SC.alloc (h : SC n₀ B b w0 v4 ts v5 rs vs v6 xs v7 ys w) (ob : Obj) : SC n₀ B b w0 v4 ts v5 rs vs v6 xs v7 ys (w.alloc ob) := h.drawn ((Drawn.refl h.s).alloc ob)
theorem SC.mono (h : SC n₀ B b w0 v4 ts v5 rs vs v6 xs v7 ys w) (hb : b ≤ b') : SC n₀ B b' w0 v4 ts v5 rs vs v6 xs v7 ys w := ⟨h.bel, h.s.mono hb, h.hB, h.hs, h.h4, h.h5, h.hi, h.rx, h.ry, h.ne⟩
theorem SC.swap (h : SC n₀ B b w0 v4 ts v5 rs vs v6 xs v7 ys w) : SC n₀ B b w0 v4 ts v5 rs vs v7 ys v6 xs w := ⟨h.bel, h.s, h.hB, h.hs, h.h4, h.h5, h.hi, h.ry, h.rx, fun k hk hl => h.ne k hl hk⟩
theorem SC.appX (h : SC n₀ B b w0 v4 ts v5 rs vs v6 xs v7 ys w) {p : Int × Int} (ho : w'.ownsRow B 37 2 v' (xs.length + 1) (cells2 xs ++ [.int .i64 p.1, .int .i64 p.2])) (g : w.grownBy w' v6.ownBlock) (ha : v'.ownBlock = v6.ownBlock ∨ v'.ownBlock = some w.heap.size) : SC n₀ B b w0 v4 ts v5 rs vs v' (xs ++ [p]) v7 ys w' := by
  refine ⟨below_grown h.bel h.rx g (Nat.le_of_lt h.hB) (by have := h.hB; have := h.hs; omega), h.s.app h.rx g h.hB, h.hB, Nat.le_trans h.hs g.size, h.h4.app h.rx g, h.h5.app h.rx g, fun k u hu => (h.hi k u hu).app h.rx g, by rw [cells2_app, List.length_append]; exact ho, ?_, ?_⟩
  · by_cases hn : v7.ownBlock = none
    · exact h.ry.kept g (.inl hn)
    · refine h.ry.kept g (.inr fun he => ?_)
      cases hv : v6.ownBlock with
      | none => rw [hv] at he; exact hn he
      | some k => rw [hv] at he; exact h.ne k hv he
  · intro k hk hl
    rcases ha with ha | ha
    · exact h.ne k (by rw [← ha]; exact hk) hl
    · rw [hk] at ha
      have := (h.ry.lt k hl).2
      have := Option.some.inj ha
      omega
theorem SC.appY (h : SC n₀ B b w0 v4 ts v5 rs vs v6 xs v7 ys w) {p : Int × Int} (ho : w'.ownsRow B 37 2 v' (ys.length + 1) (cells2 ys ++ [.int .i64 p.1, .int .i64 p.2])) (g : w.grownBy w' v7.ownBlock) (ha : v'.ownBlock = v7.ownBlock ∨ v'.ownBlock = some w.heap.size) : SC n₀ B b w0 v4 ts v5 rs vs v6 xs v' (ys ++ [p]) w' :=
  (h.swap.appX ho g ha).swap
end
/-- All the data; the stream is left behind. -/
structure FF (n₀ : Nat) (w0 : World) (v4 : Value) (ts : List ByteArray) (v5 : Value) (rs : List (List ByteArray)) (v6 : Value) (xs : List (Int × Int)) (v7 : Value) (ys : List (Int × Int)) (w : World) : Prop where
  bel : Below n₀ w0 w
  hz : n₀ ≤ w.heap.size
  pl : PlH w v4 v5 ts rs
  lx : LgH w v6 xs
  ly : LgH w v7 ys
theorem FF.below {n₀ : Nat} {w0 w w' : World} {v4 v5 v6 v7 : Value} {ts : List ByteArray} {rs : List (List ByteArray)} {xs ys : List (Int × Int)} (h : FF n₀ w0 v4 ts v5 rs v6 xs v7 ys w) (b : Below w.heap.size w w') : FF n₀ w0 v4 ts v5 rs v6 xs v7 ys w' :=
  ⟨h.bel.trans (b.mono h.hz), Nat.le_trans h.hz b.size, ⟨h.pl.s.below b, h.pl.r.below b⟩, h.lx.below b, h.ly.below b⟩
/-- How many legs. -/
structure LgN (k : Int) (l : List (Int × Int)) : Prop where
  n : (l.length : Int) ≤ k
  ok : ∀ p ∈ l, FracOk p
theorem LgN.nil : LgN 0 [] := ⟨by simp, fun p hp => by cases hp⟩
theorem LgN.snoc {k : Int} {l : List (Int × Int)} {p : Int × Int} (h : LgN k l) (hp : FracOk p) : LgN (k + 1) (l ++ [p]) := ⟨by have := h.n; simp; omega, fun q hq => by rcases List.mem_append.1 hq with hq | hq; exact h.ok q hq; simp at hq; rw [hq]; exact hp⟩
theorem LgN.mono {k k' : Int} {l : List (Int × Int)} (h : LgN k l) (hk : k ≤ k') : LgN k' l := ⟨by have := h.n; omega, h.ok⟩
structure TsN (ts : List ByteArray) : Prop where
  n : ts.length ≤ 7
  sm : SmAll ts
structure RsN (rs : List (List ByteArray)) : Prop where
  n : rs.length ≤ 6
  m : ∀ k, (wsAt rs k).length ≤ 40
theorem SC.done {n₀ B b : Nat} {w0 w : World} {v4 v5 v6 v7 : Value} {ts : List ByteArray} {rs : List (List ByteArray)} {vs : List Value} {xs ys : List (Int × Int)} (h : SC n₀ B b w0 v4 ts v5 rs vs v6 xs v7 ys w) (ht : TsN ts) (hr : RsN rs) {i j : Int} (hx : LgN i xs) (hi : i ≤ 10) (hy : LgN j ys) (hj : j ≤ 10) : FF n₀ w0 v4 ts v5 rs v6 xs v7 ys w :=
  ⟨h.bel, Nat.le_of_lt h.s.lt, ⟨⟨h.h4.row, fun s hs => (ht.sm s hs).le, by have := ht.n; omega⟩, ⟨⟨vs, h.h5.row, fun k u hu => (h.hi k u hu).row⟩, by have := hr.n; omega, fun k => by have := hr.m k; omega⟩⟩,
    ⟨(Row.of_owns h.rx).mono (Nat.zero_le _), by have := hx.n; omega, fun p hp => by have := hx.ok p hp; exact ⟨this.n0, this.n1, this.d0, this.d1⟩⟩, ⟨(Row.of_owns h.ry).mono (Nat.zero_le _), by have := hy.n; omega, fun p hp => by have := hy.ok p hp; exact ⟨this.n0, this.n1, this.d0, this.d1⟩⟩⟩
set_option maxRecDepth 100000 in
set_option maxHeartbeats 1000000 in
theorem fw0 (v : Value) (w0 : World) : T3 Try.prog (fun a w => (IsW w0 w) ∧ Fr 115 [(0, v)] a) (sel [0] fwB) (fun a w => (IsW w0 w) ∧ Fr 115 [(0, v)] a) No 9 No := by
  refine T3.leaf ?_
  rintro Q JS JX JT K hS hK hX hE hT hR a w ⟨hw, ⟨fr, rfl, q0, _⟩⟩
  obtain rfl : w = w0 := hw
  rw [fr_fwB, show fr 0 = _ from q0]
  clear q0
  conv => arg 2; whnf
  go_wp2_with fail
  refine Met.intro (hS _ _ ?_)
  exact ⟨rfl, Fr.of _ rfl ⟨rfl, trivial⟩⟩

set_option maxRecDepth 100000 in
set_option maxHeartbeats 1000000 in
theorem fw1 (v : Value) (n : Nat) (zs : List Int) (w0 : World) (h : SRow w0 v n zs w0.heap.size) : T3 Try.prog (fun a w => (IsW w0 w) ∧ Fr 115 [(0, v)] a) (sel [1, 0] fwB) (fun a w => (Str w0.heap.size w 0 ∧ Below w0.heap.size w0 w ∧ w0.heap.size + 1 ≤ w.heap.size) ∧ Fr 115 [(3, .pointer (some ⟨w0.heap.size, 0, none⟩))] a) No 9 No := by
  refine T3.leaf ?_
  rintro Q JS JX JT K hS hK hX hE hT hR a w ⟨hw, ⟨fr, rfl, q0, _⟩⟩
  obtain rfl : w = w0 := hw
  have hS0 := str_newF w v n zs 25 h
  obtain ⟨p, c, rfl⟩ : ∃ a c, v = .slice a n c := by
    rcases h with ⟨rfl, a, c, rfl⟩ | ⟨h, _⟩
    · exact ⟨_, _, rfl⟩
    · rcases h.2 with ⟨rfl, rfl⟩ | ⟨b, off, cap, rfl, _⟩
      · exact ⟨_, _, rfl⟩
      · exact ⟨_, _, rfl⟩
  clear h
  rw [fr_fwB, show fr 0 = _ from q0]
  clear q0
  conv => arg 2; whnf
  go_wp2_with fail
  refine Met.intro (hS _ _ ?_)
  exact ⟨⟨hS0, (Below.refl _ _).alloc (Nat.le_refl _) _, by simp⟩, Fr.of _ rfl ⟨rfl, trivial⟩⟩

set_option maxRecDepth 100000 in
set_option maxHeartbeats 1000000 in
theorem fw2 (n₀ : Nat) (w0 : World) : T3 Try.prog (fun a w => (Str n₀ w 0 ∧ Below n₀ w0 w ∧ n₀ + 1 ≤ w.heap.size) ∧ Fr 115 [(3, .pointer (some ⟨n₀, 0, none⟩))] a) (sel [1, 1, 0] fwB) (fun a w => ∃ (M : Nat) (v4 : Value) (ts : List ByteArray), (TsN ts ∧ ts.length ≤ 6) ∧ (SO n₀ M (1) w0 v4 ts w) ∧ Fr 115 [(3, .pointer (some ⟨n₀, 0, none⟩)), (4, v4)] a) No 9 No := by
  refine T3.leaf ?_
  rintro Q JS JX JT K hS hK hX hE hT hR a w ⟨⟨hS_, hbel, hz⟩, ⟨fr, rfl, q3, _⟩⟩
  have hO := owns_lit w w.heap.size 9 #[.string ⟨#[116, 99]⟩, .string ⟨#[116, 97]⟩, .string ⟨#[116, 101]⟩, .string ⟨#[116, 98]⟩, .string ⟨#[116, 100]⟩, .string ⟨#[116, 102]⟩] 6 (by decide) rfl (Nat.le_refl _)
  have hS2 := hS_.alloc (.cells #[.string ⟨#[116, 99]⟩, .string ⟨#[116, 97]⟩, .string ⟨#[116, 101]⟩, .string ⟨#[116, 98]⟩, .string ⟨#[116, 100]⟩, .string ⟨#[116, 102]⟩] 9)
  have hb2 := hbel.alloc (by omega : n₀ ≤ w.heap.size) (.cells #[.string ⟨#[116, 99]⟩, .string ⟨#[116, 97]⟩, .string ⟨#[116, 101]⟩, .string ⟨#[116, 98]⟩, .string ⟨#[116, 100]⟩, .string ⟨#[116, 102]⟩] 9)
  have HO := Lib.hid hO
  have Hb := Lib.hid hb2
  have hz2 := hz
  clear hO hb2 hbel hS_
  rw [fr_fwB, show fr 3 = _ from q3]
  clear q3
  conv => arg 2; whnf
  go_wp2_with fail
  refine (range_d n₀ 0 1 6 _ hS2 (by decide) (by decide)).mono ?_
  rintro e w1 ⟨r, rfl, ⟨hr1, hr6⟩, hd⟩
  have ho := owns_first (owns_drawn HO.out hd (by omega)) (show r.toNat ≤ 6 by omega)
  have hbw := below_str Hb.out hd.gr (Nat.le_refl _) (by simp; omega)
  have hsz := hd.size
  simp at hsz
  have hlen : (seedL.take r.toNat).length = r.toNat := by rw [List.length_take]; simp [seedL]; omega
  have hSO : SO n₀ w.heap.size 1 w0 (.slice (some ⟨w.heap.size, 0, none⟩) r.toNat 6) (seedL.take r.toNat) w1 := by
    refine ⟨hbw, hd.str, by omega, by omega, ?_⟩
    rw [hlen, cells_map, List.map_take]
    exact ho
  have HF := Lib.hid hSO
  have HT := Lib.hid (show TsN (seedL.take r.toNat) ∧ (seedL.take r.toNat).length ≤ 6 from ⟨⟨by rw [hlen]; omega, seedL_sm _⟩, by rw [hlen]; omega⟩)
  clear hSO hlen ho hbw hsz hd HO Hb hS2
  go_wp2_with fail
  refine Met.intro (hS _ _ ?_)
  exact ⟨_, _, _, HT.out, HF.out, Fr.of _ rfl ⟨rfl, rfl, trivial⟩⟩

set_option maxRecDepth 100000 in
set_option maxHeartbeats 1000000 in
theorem fw3 (n₀ : Nat) (w0 : World) (M : Nat) (v4 : Value) (ts : List ByteArray) : T3 Try.prog (fun a w => (SO n₀ M (1) w0 v4 ts w) ∧ Fr 115 [(3, .pointer (some ⟨n₀, 0, none⟩)), (4, v4)] a) (sel [1, 1, 1, 0, 0] fwB) (fun a w => ∃ q, Fr 115 ((24, .bool q) :: [(3, .pointer (some ⟨n₀, 0, none⟩)), (4, v4)]) a ∧ (True ∧ SO n₀ M (2) w0 v4 ts w)) No 9 No := by
  refine T3.leaf ?_
  rintro Q JS JX JT K hS hK hX hE hT hR a w ⟨hW, ⟨fr, rfl, q3, q4, _⟩⟩
  have HW := Lib.hid hW
  obtain ⟨p4, c4, hv4⟩ := (Row.of_owns hW.o).shape
  subst hv4
  rw [fr_fwB, show fr 3 = _ from q3, show fr 4 = _ from q4]
  clear q3 q4
  conv => arg 2; whnf
  go_wp2_with fail
  refine (flip_d n₀ 1 12 w hW.s rfl (by decide)).mono ?_
  rintro e w1 ⟨q, rfl, hd⟩
  have HW1 := Lib.hid (HW.out.drawn hd)
  clear hW hd
  go_wp2_with fail
  refine Met.intro (hS _ _ ?_)
  exact ⟨q, Fr.of _ rfl ⟨rfl, rfl, rfl, trivial⟩, trivial, HW1.out⟩

set_option maxRecDepth 100000 in
set_option maxHeartbeats 1000000 in
theorem fw4 (n₀ : Nat) (w0 : World) (M : Nat) (v4 : Value) (ts : List ByteArray) (ht : TsN ts) (h6 : ts.length ≤ 6) : T3 Try.prog (fun a w => (SO n₀ M (2) w0 v4 ts w) ∧ Fr 115 [(3, .pointer (some ⟨n₀, 0, none⟩)), (4, v4)] a) (sel [1, 1, 1, 0, 1, 2] fwB) (fun a w => ∃ (M' : Nat) (v4' : Value) (ts' : List ByteArray), (TsN ts') ∧ (SO n₀ M' 3 w0 v4' ts' w) ∧ Fr 115 [(3, .pointer (some ⟨n₀, 0, none⟩)), (4, v4')] a) No 9 No := by
  refine T3.leaf ?_
  rintro Q JS JX JT K hS hK hX hE hT hR a w ⟨hW, ⟨fr, rfl, q3, q4, _⟩⟩
  have hE1 := el_str
  have hsm := ht.sm
  have HC := Lib.hid (clone_s v4 _ _ _ w (Row.of_owns hW.o) (by omega))
  have HW := Lib.hid hW
  obtain ⟨p4, c4, hv4⟩ := (Row.of_owns hW.o).shape
  subst hv4
  clear hW ht
  rw [fr_fwB, show fr 3 = _ from q3, show fr 4 = _ from q4]
  clear q3 q4
  conv => arg 2; whnf
  go_wp2_with fail
  refine HC.out.mono ?_
  rintro e w1 ⟨v', rfl, ho, hb1⟩
  have h1 := HW.out.clone ho hb1
  obtain ⟨p10, c10, hv10⟩ := (Row.of_owns ho).shape
  subst hv10
  clear ho hb1
  go_wp2_with fail
  refine (some_lit n₀ 2 [⟨#[]⟩, ⟨#[116, 97]⟩, ⟨#[116, 122]⟩] 3 _ _ _ rfl rfl (by decide) (by decide) h1.s (by decide)).mono ?_
  rintro e w2 ⟨x, rfl, hmx, hd⟩
  have h2 := h1.drawn hd
  have hz2 := h2.hs
  have hx : Sm x := by simp at hmx; rcases hmx with rfl | rfl | rfl <;> decide
  clear hd h1 hmx
  go_wp2_with (at_builtin; refine app_law rfl _ _ _ rfl hE1 (h2.o.alloc _) rfl [.string x] rfl rfl (cells_new w2 #[_] _) (by simp [Value.oneCell']) (by omega) (by simp; omega) ?_; intro v'' w3 ho3 hg3; have h3 := (h2.alloc _).app ho3 hg3)
  refine Met.intro (hS _ _ ?_)
  exact ⟨_, _, _, ⟨by simp; omega, hsm.snoc hx⟩, h3, Fr.of _ rfl ⟨rfl, rfl, trivial⟩⟩

set_option maxRecDepth 100000 in
set_option maxHeartbeats 1000000 in
theorem fw5 (n₀ : Nat) (w0 : World) (M : Nat) (v4 : Value) (ts : List ByteArray) (ht : TsN ts) : T3 Try.prog (fun a w => (SO n₀ M (3) w0 v4 ts w) ∧ Fr 115 [(3, .pointer (some ⟨n₀, 0, none⟩)), (4, v4)] a) (sel [1, 1, 1, 1, 0] fwB) (fun a w => ∃ (M : Nat) (v5 : Value) (rs : List (List ByteArray)) (vs : List Value), (SB n₀ M (173) 5 w0 v4 ts v5 rs vs w) ∧ Fr 115 [(3, .pointer (some ⟨n₀, 0, none⟩)), (4, v4), (5, v5)] a) No 9 No := by
  refine T3.leaf ?_
  rintro Q JS JX JT K hS hK hX hE hT hR a w ⟨hW, ⟨fr, rfl, q3, q4, _⟩⟩
  have HR := Lib.hid (rounds_any n₀ 3 w v4 ts ⟨hW.s, Held.of_owns hW.o hW.hM, ht.sm, by have := ht.n; omega, by decide⟩)
  have HW := Lib.hid hW
  obtain ⟨p4, c4, hv4⟩ := (Row.of_owns hW.o).shape
  subst hv4
  clear hW ht
  rw [fr_fwB, show fr 3 = _ from q3, show fr 4 = _ from q4]
  clear q3 q4
  conv => arg 2; whnf
  go_wp2_with fail
  refine HR.out.mono ?_
  rintro e w1 ⟨v5, rs, vs, rfl, hf⟩
  have HF := Lib.hid (HW.out.rounds hf)
  obtain ⟨p5, c5, hv5⟩ := (Row.of_owns hf.o).shape
  subst hv5
  clear hf
  go_wp2_with fail
  refine Met.intro (hS _ _ ?_)
  exact ⟨_, _, rs, vs, HF.out, Fr.of _ rfl ⟨rfl, rfl, rfl, trivial⟩⟩

set_option maxRecDepth 100000 in
set_option maxHeartbeats 1000000 in
theorem fw6 (n₀ : Nat) (w0 : World) (v4 : Value) (ts : List ByteArray) (M : Nat) (v5 : Value) (rs : List (List ByteArray)) (vs : List Value) : T3 Try.prog (fun a w => (SB n₀ M (173) 5 w0 v4 ts v5 rs vs w) ∧ Fr 115 [(3, .pointer (some ⟨n₀, 0, none⟩)), (4, v4), (5, v5)] a) (sel [1, 1, 1, 1, 1, 0, 0] fwB) (fun a w => ∃ q, Fr 115 ((36, .bool q) :: [(3, .pointer (some ⟨n₀, 0, none⟩)), (4, v4), (5, v5)]) a ∧ (True ∧ SB n₀ M (174) 5 w0 v4 ts v5 rs vs w)) No 9 No := by
  refine T3.leaf ?_
  rintro Q JS JX JT K hS hK hX hE hT hR a w ⟨hW, ⟨fr, rfl, q3, q4, q5, _⟩⟩
  have HW := Lib.hid hW
  obtain ⟨p4, c4, hv4⟩ := hW.h.slice
  subst hv4
  obtain ⟨p5, c5, hv5⟩ := (Row.of_owns hW.o).shape
  subst hv5
  rw [fr_fwB, show fr 3 = _ from q3, show fr 4 = _ from q4, show fr 5 = _ from q5]
  clear q3 q4 q5
  conv => arg 2; whnf
  go_wp2_with fail
  refine (flip_d n₀ 173 15 w hW.s rfl (by decide)).mono ?_
  rintro e w1 ⟨q, rfl, hd⟩
  have HW1 := Lib.hid (HW.out.drawn hd)
  clear hW hd
  go_wp2_with fail
  refine Met.intro (hS _ _ ?_)
  exact ⟨q, Fr.of _ rfl ⟨rfl, rfl, rfl, rfl, trivial⟩, trivial, HW1.out⟩

set_option maxRecDepth 100000 in
set_option maxHeartbeats 1000000 in
theorem fw7 (n₀ : Nat) (w0 : World) (v4 : Value) (ts : List ByteArray) (M : Nat) (v5 : Value) (rs : List (List ByteArray)) (vs : List Value) : T3 Try.prog (fun a w => (SB n₀ M (174) 5 w0 v4 ts v5 rs vs w) ∧ Fr 115 [(3, .pointer (some ⟨n₀, 0, none⟩)), (4, v4), (5, v5)] a) (sel [1, 1, 1, 1, 1, 0, 1, 2] fwB) (fun a w => ∃ (v5' : Value) (rs' : List (List ByteArray)) (vs' : List Value), (SB n₀ M 174 6 w0 v4 ts v5' rs' vs' w) ∧ Fr 115 [(3, .pointer (some ⟨n₀, 0, none⟩)), (4, v4), (5, v5')] a) No 9 No := by
  refine T3.leaf ?_
  rintro Q JS JX JT K hS hK hX hE hT hR a w ⟨hW, ⟨fr, rfl, q3, q4, q5, _⟩⟩
  have hE1 := el_ss
  have hn5 := hW.n
  have hu : RHd 9 n₀ (w.alloc (.cells #[.string ⟨#[116, 97]⟩] 9)).heap.size (w.alloc (.cells #[.string ⟨#[116, 97]⟩] 9)) 1 (.slice (some ⟨w.heap.size, 0, none⟩) 1 1) (cellsOf encSt [⟨#[116, 97]⟩]) :=
    RHd.of_owns (base := w.heap.size) (owns_lit w _ _ #[.string ⟨#[116, 97]⟩] 1 (by decide) rfl (Nat.le_refl _)) (by have := hW.hM; have := hW.hs; omega)
  have h2 := (hW.alloc (.cells #[.string ⟨#[116, 97]⟩] 9)).alloc (.cells #[.slice (some ⟨w.heap.size, 0, none⟩) 1 1] 26)
  have hz := h2.hs
  have Hu := Lib.hid (hu.alloc (.cells #[.slice (some ⟨w.heap.size, 0, none⟩) 1 1] 26))
  have hE2 := cells_at (w.alloc (.cells #[.string ⟨#[116, 97]⟩] 9)) #[.slice (some ⟨w.heap.size, 0, none⟩) 1 1] 26 (w.heap.size + 1) (by simp)
  have Hz := Lib.hid (show RHd 9 n₀ ((w.alloc (.cells #[.string ⟨#[116, 97]⟩] 9)).alloc (.cells #[.slice (some ⟨w.heap.size, 0, none⟩) 1 1] 26)).heap.size ((w.alloc (.cells #[.string ⟨#[116, 97]⟩] 9)).alloc (.cells #[.slice (some ⟨w.heap.size, 0, none⟩) 1 1] 26)) [(⟨#[116, 97]⟩ : ByteArray)].length (.slice (some ⟨w.heap.size, 0, none⟩) 1 1) (cellsOf encSt [⟨#[116, 97]⟩]) from Hu.out.mono (by simp))
  have HA := Lib.hid (fun v' w' ho g => h2.app (v' := v') (w' := w') Hz.out (by decide) ho g)
  have ho2 := h2.o
  obtain ⟨p4, c4, hv4⟩ := hW.h.slice
  subst hv4
  obtain ⟨p5, c5, hv5⟩ := (Row.of_owns hW.o).shape
  subst hv5
  clear hW hu h2
  rw [fr_fwB, show fr 3 = _ from q3, show fr 4 = _ from q4, show fr 5 = _ from q5]
  clear q3 q4 q5
  conv => arg 2; whnf
  go_wp2_with (at_builtin; refine app_law rfl _ _ _ rfl hE1 ho2 rfl [.slice (some ⟨w.heap.size, 0, none⟩) 1 1] rfl rfl hE2 (by simp [Value.oneCell']) (by omega) hz ?_; intro v'' w3 ho3 hg3)
  refine Met.intro (hS _ _ ?_)
  exact ⟨_, _, _, HA.out _ _ ho3 hg3, Fr.of _ rfl ⟨rfl, rfl, rfl, trivial⟩⟩

set_option maxRecDepth 100000 in
set_option maxHeartbeats 1000000 in
theorem fw8 (n₀ : Nat) (w0 : World) (v4 : Value) (ts : List ByteArray) (M : Nat) (v5 : Value) (rs : List (List ByteArray)) (vs : List Value) : T3 Try.prog (fun a w => (SB n₀ M (174) 6 w0 v4 ts v5 rs vs w) ∧ Fr 115 [(3, .pointer (some ⟨n₀, 0, none⟩)), (4, v4), (5, v5)] a) (sel [1, 1, 1, 1, 1, 1, 0] fwB) (fun a w => ∃ (B : Nat), (RsN rs) ∧ (SC n₀ B (174) w0 v4 ts v5 rs vs (.slice none 0 0) ([]) (.slice none 0 0) ([]) w) ∧ Fr 115 [(3, .pointer (some ⟨n₀, 0, none⟩)), (4, v4), (5, v5), (6, .slice none 0 0), (7, .slice none 0 0)] a) No 9 No := by
  refine T3.leaf ?_
  rintro Q JS JX JT K hS hK hX hE hT hR a w ⟨hW, ⟨fr, rfl, q3, q4, q5, _⟩⟩
  have HN := Lib.hid (show RsN rs from ⟨hW.n, hW.m⟩)
  have HW := Lib.hid hW.legs
  obtain ⟨p4, c4, hv4⟩ := hW.h.slice
  subst hv4
  obtain ⟨p5, c5, hv5⟩ := (Row.of_owns hW.o).shape
  subst hv5
  clear hW
  rw [fr_fwB, show fr 3 = _ from q3, show fr 4 = _ from q4, show fr 5 = _ from q5]
  clear q3 q4 q5
  conv => arg 2; whnf
  go_wp2_with fail
  refine Met.intro (hS _ _ ?_)
  exact ⟨_, HN.out, HW.out, Fr.of _ rfl ⟨rfl, rfl, rfl, rfl, rfl, trivial⟩⟩

set_option maxRecDepth 100000 in
set_option maxHeartbeats 1000000 in
theorem fw9 (n₀ : Nat) (w0 : World) (v4 : Value) (ts : List ByteArray) (v5 : Value) (rs : List (List ByteArray)) (vs : List Value) (B : Nat) : T3 Try.prog (fun a w => (SC n₀ B (174) w0 v4 ts v5 rs vs (.slice none 0 0) ([]) (.slice none 0 0) ([]) w) ∧ Fr 115 [(3, .pointer (some ⟨n₀, 0, none⟩)), (4, v4), (5, v5), (6, .slice none 0 0), (7, .slice none 0 0)] a) (sel [1, 1, 1, 1, 1, 1, 1, 0, 0] fwB) (fun a w => ∃ r : Int, (0 ≤ r ∧ r ≤ 3) ∧ ((0 ≤ (0 : Int) ∧ (0 : Int) ≤ r) ∧ ∃ (v6 : Value) (xs : List (Int × Int)) (v7 : Value) (ys : List (Int × Int)), (LgN 0 xs ∧ LgN 0 ys) ∧ (SC n₀ B (175 + 6 * (0 : Int).toNat) w0 v4 ts v5 rs vs (v6) (xs) (v7) (ys) w) ∧ Fr 115 [(3, .pointer (some ⟨n₀, 0, none⟩)), (4, v4), (5, v5), (6, v6), (7, v7), (42, .int .i64 r), (43, .int .i64 0)] a)) No 9 No := by
  refine T3.leaf ?_
  rintro Q JS JX JT K hS hK hX hE hT hR a w ⟨hW, ⟨fr, rfl, q3, q4, q5, q6, q7, _⟩⟩
  have HW := Lib.hid hW
  obtain ⟨p4, c4, hv4⟩ := hW.h4.slice
  subst hv4
  obtain ⟨p5, c5, hv5⟩ := hW.h5.slice
  subst hv5
  rw [fr_fwB, show fr 3 = _ from q3, show fr 4 = _ from q4, show fr 5 = _ from q5, show fr 6 = _ from q6, show fr 7 = _ from q7]
  clear q3 q4 q5 q6 q7
  conv => arg 2; whnf
  go_wp2_with fail
  refine (range_d n₀ 174 0 3 w hW.s (by decide) (by decide)).mono ?_
  rintro e w1 ⟨r, rfl, ⟨hr0, hr3⟩, hd⟩
  have HW1 := Lib.hid (HW.out.drawn hd)
  clear hW hd
  go_wp2_with fail
  refine Met.intro (hS _ _ ?_)
  exact ⟨r, ⟨hr0, hr3⟩, ⟨by omega, by omega⟩, _, [], _, [], ⟨LgN.nil, LgN.nil⟩, HW1.out, Fr.of _ rfl ⟨rfl, rfl, rfl, rfl, rfl, rfl, rfl, trivial⟩⟩

set_option maxRecDepth 100000 in
set_option maxHeartbeats 1000000 in
theorem fw11 (n₀ : Nat) (w0 : World) (v4 : Value) (ts : List ByteArray) (v5 : Value) (rs : List (List ByteArray)) (vs : List Value) (B : Nat) (r : Int) (hr : 0 ≤ r ∧ r ≤ 3) (k : Int) : T3 Try.prog (fun a w => ∃ (v6 : Value) (xs : List (Int × Int)) (v7 : Value) (ys : List (Int × Int)), ((0 ≤ k ∧ k < r) ∧ LgN k xs ∧ LgN k ys) ∧ (SC n₀ B (175 + 6 * (k : Int).toNat) w0 v4 ts v5 rs vs (v6) (xs) (v7) (ys) w) ∧ Fr 115 [(3, .pointer (some ⟨n₀, 0, none⟩)), (4, v4), (5, v5), (6, v6), (7, v7), (42, .int .i64 r), (43, .int .i64 k)] a) (sel [1, 1, 1, 1, 1, 1, 1, 0, 1, 4, 4, 1, 1, 0, 4] fwB) (fun a w => ∃ (v6 : Value) (xs : List (Int × Int)) (v7 : Value) (ys : List (Int × Int)), ((0 ≤ k ∧ k < r) ∧ LgN (k + 1) xs ∧ LgN (k + 1) ys) ∧ (SC n₀ B (175 + 6 * ((k + 1) : Int).toNat) w0 v4 ts v5 rs vs (v6) (xs) (v7) (ys) w) ∧ Fr 115 [(3, .pointer (some ⟨n₀, 0, none⟩)), (4, v4), (5, v5), (6, v6), (7, v7), (42, .int .i64 r), (43, .int .i64 k)] a) No 9 No := by
  refine T3.leaf ?_
  rintro Q JS JX JT K hS hK hX hE hT hR a w ⟨v6, xs, v7, ys, hpre, hW, ⟨fr, rfl, q3, q4, q5, q6, q7, q42, q43, _⟩⟩
  have hpp := Lib.hid hpre
  obtain ⟨⟨hk0, hk1⟩, hx, hy⟩ := hpre
  have hxn := hx.n
  have hyn := hy.n
  have hx30 : xs.length ≤ 30 := by omega
  have hy30 : ys.length ≤ 30 := by omega
  have hE := el_fracL
  clear hxn hyn hx hy
  obtain ⟨p4, c4, hv4⟩ := hW.h4.slice
  subst hv4
  obtain ⟨p5, c5, hv5⟩ := hW.h5.slice
  subst hv5
  obtain ⟨p6, c6, hv6⟩ := (Row.of_owns hW.rx).shape
  subst hv6
  obtain ⟨p7, c7, hv7⟩ := (Row.of_owns hW.ry).shape
  subst hv7
  rw [fr_fwB, show fr 3 = _ from q3, show fr 4 = _ from q4, show fr 5 = _ from q5, show fr 6 = _ from q6, show fr 7 = _ from q7, show fr 42 = _ from q42, show fr 43 = _ from q43]
  clear q3 q4 q5 q6 q7 q42 q43
  conv => arg 2; whnf
  go_wp2_with fail
  refine (worth_any n₀ (175 + 6 * k.toNat) w hW.s (by omega)).mono ?_
  rintro e w1 ⟨p, rfl, hp, hd⟩
  have h1 := hW.drawn hd
  have hz1 := h1.hs
  clear hd hW
  go_wp2_with (at_builtin; refine app_lawA rfl _ _ _ rfl hE (h1.rx.alloc _) rfl [.int .i64 p.1, .int .i64 p.2] rfl rfl (cells_new w1 #[_, _] _) (by simp [Value.oneCell']) (by omega) (by simp; omega) ?_; intro v6' w2 ho2 hg2 ha2)
  have h2 := (h1.alloc _).appX ho2 hg2 ha2
  clear h1 hz1 ho2 hg2 ha2
  refine (worth_any n₀ (175 + 6 * k.toNat + 3) w2 h2.s (by omega)).mono ?_
  rintro e w3 ⟨p', rfl, hp', hd⟩
  have h3 := h2.drawn hd
  have hz3 := h3.hs
  clear hd h2
  go_wp2_with (at_builtin; refine app_lawA rfl _ _ _ rfl hE (h3.ry.alloc _) rfl [.int .i64 p'.1, .int .i64 p'.2] rfl rfl (cells_new w3 #[_, _] _) (by simp [Value.oneCell']) (by omega) (by simp; omega) ?_; intro v7' w4 ho4 hg4 ha4)
  have h4 := (h3.alloc _).appY ho4 hg4 ha4
  clear h3 hz3 ho4 hg4 ha4
  refine Met.intro (hS _ _ ?_)
  exact ⟨_, _, _, _, ⟨hpp.out.1, hpp.out.2.1.snoc hp, hpp.out.2.2.snoc hp'⟩, h4.mono (by omega), Fr.of _ rfl ⟨rfl, rfl, rfl, rfl, rfl, rfl, rfl, trivial⟩⟩

set_option maxRecDepth 100000 in
set_option maxHeartbeats 1000000 in
theorem fw11b (n₀ : Nat) (w0 : World) (v4 : Value) (ts : List ByteArray) (v5 : Value) (rs : List (List ByteArray)) (vs : List Value) (B : Nat) (r : Int) (hr : 0 ≤ r ∧ r ≤ 3) (k : Int) : T3 Try.prog (fun a w => ∃ (v6 : Value) (xs : List (Int × Int)) (v7 : Value) (ys : List (Int × Int)), ((0 ≤ k ∧ k < r) ∧ LgN k xs ∧ LgN k ys) ∧ (SC n₀ B (175 + 6 * (k : Int).toNat) w0 v4 ts v5 rs vs (v6) (xs) (v7) (ys) w) ∧ Fr 115 [(3, .pointer (some ⟨n₀, 0, none⟩)), (4, v4), (5, v5), (6, v6), (7, v7), (42, .int .i64 r), (43, .int .i64 k)] a) (sel [1, 1, 1, 1, 1, 1, 1, 0, 1, 4, 4, 1, 1, 0] fwB) (fun a w => ∃ (v6 : Value) (xs : List (Int × Int)) (v7 : Value) (ys : List (Int × Int)), ((0 ≤ k ∧ k < r) ∧ LgN (k + 1) xs ∧ LgN (k + 1) ys) ∧ (SC n₀ B (175 + 6 * ((k + 1) : Int).toNat) w0 v4 ts v5 rs vs (v6) (xs) (v7) (ys) w) ∧ Fr 115 [(3, .pointer (some ⟨n₀, 0, none⟩)), (4, v4), (5, v5), (6, v6), (7, v7), (42, .int .i64 r), (43, .int .i64 k)] a) No 9 No := T3.block (id' := 1) (c := (sel [1, 1, 1, 1, 1, 1, 1, 0, 1, 4, 4, 1, 1, 0, 4] fwB)) (by decide) (fw11 n₀ w0 v4 ts v5 rs vs B r hr k)

def fwAI (n₀ : Nat) (w0 : World) (v4 : Value) (ts : List ByteArray) (v5 : Value) (rs : List (List ByteArray)) (vs : List Value) (B : Nat) (r : Int) (hr : 0 ≤ r ∧ r ≤ 3) (k : Int) (a : Act) (w : World) : Prop := (0 ≤ k ∧ k ≤ r) ∧ ∃ (v6 : Value) (xs : List (Int × Int)) (v7 : Value) (ys : List (Int × Int)), (LgN k xs ∧ LgN k ys) ∧ (SC n₀ B (175 + 6 * (k : Int).toNat) w0 v4 ts v5 rs vs (v6) (xs) (v7) (ys) w) ∧ Fr 115 [(3, .pointer (some ⟨n₀, 0, none⟩)), (4, v4), (5, v5), (6, v6), (7, v7), (42, .int .i64 r), (43, .int .i64 k)] a
set_option maxRecDepth 100000 in
set_option maxHeartbeats 1000000 in
theorem fwAt (n₀ : Nat) (w0 : World) (v4 : Value) (ts : List ByteArray) (v5 : Value) (rs : List (List ByteArray)) (vs : List Value) (B : Nat) (r : Int) (hr : 0 ≤ r ∧ r ≤ 3) (k : Int) : T3 Try.prog (fun a w => fwAI n₀ w0 v4 ts v5 rs vs B r hr k a w) (sel [1, 1, 1, 1, 1, 1, 1, 0, 1, 4, 4, 0] fwB) (fun a w => ∃ q, Fr 115 ((44, .bool q) :: [(43, .int .i64 k)]) a ∧ ((q = true ↔ k < r) ∧ fwAI n₀ w0 v4 ts v5 rs vs B r hr k a w)) No 9 No := by
  refine T3.leaf ?_
  rintro Q JS JX JT K hS hK hX hE hT hR a w ⟨hk, v6, xs, v7, ys, hpre, hW, ⟨fr, rfl, q3, q4, q5, q6, q7, q42, q43, _⟩⟩
  have hr3 := hr.2
  rw [fr_fwB, show fr 3 = _ from q3, show fr 4 = _ from q4, show fr 5 = _ from q5, show fr 6 = _ from q6, show fr 7 = _ from q7, show fr 42 = _ from q42, show fr 43 = _ from q43]
  clear q3 q4 q5 q6 q7 q42 q43
  conv => arg 2; whnf
  by_cases hlt : k < r
  · go_wp2_with fail
    refine Met.intro (hS _ _ ?_)
    exact ⟨true, Fr.of _ rfl ⟨rfl, rfl, trivial⟩, ⟨fun _ => hlt, fun _ => rfl⟩, hk, v6, xs, v7, ys, hpre, hW, Fr.of _ rfl ⟨rfl, rfl, rfl, rfl, rfl, rfl, rfl, trivial⟩⟩
  · have hpb : decide (k < (r)) = false := by simp; omega
    go_wp2_with fail
    refine Met.intro (hS _ _ ?_)
    exact ⟨false, Fr.of _ rfl ⟨rfl, rfl, trivial⟩, ⟨(fun h => by cases h), fun h => absurd h (by omega)⟩, hk, v6, xs, v7, ys, hpre, hW, Fr.of _ rfl ⟨rfl, rfl, rfl, rfl, rfl, rfl, rfl, trivial⟩⟩

set_option maxRecDepth 100000 in
set_option maxHeartbeats 1000000 in
theorem fwAn (n₀ : Nat) (w0 : World) (v4 : Value) (ts : List ByteArray) (v5 : Value) (rs : List (List ByteArray)) (vs : List Value) (B : Nat) (r : Int) (hr : 0 ≤ r ∧ r ≤ 3) (k : Int) : T3 Try.prog (fun a w => (0 ≤ k ∧ k < r) ∧ ∃ (v6 : Value) (xs : List (Int × Int)) (v7 : Value) (ys : List (Int × Int)), (LgN (k + 1) xs ∧ LgN (k + 1) ys) ∧ (SC n₀ B (175 + 6 * ((k + 1) : Int).toNat) w0 v4 ts v5 rs vs (v6) (xs) (v7) (ys) w) ∧ Fr 115 [(3, .pointer (some ⟨n₀, 0, none⟩)), (4, v4), (5, v5), (6, v6), (7, v7), (42, .int .i64 r), (43, .int .i64 k)] a) (sel [1, 1, 1, 1, 1, 1, 1, 0, 1, 4, 4, 1, 1, 1] fwB) (fun a w => fwAI n₀ w0 v4 ts v5 rs vs B r hr (k + 1) a w) No 9 No := by
  refine T3.leaf ?_
  rintro Q JS JX JT K hS hK hX hE hT hR a w ⟨hk, v6, xs, v7, ys, hpre, hW, ⟨fr, rfl, q3, q4, q5, q6, q7, q42, q43, _⟩⟩
  obtain ⟨hk0, hk1⟩ := hk
  have hr3 := hr.2
  rw [fr_fwB, show fr 3 = _ from q3, show fr 4 = _ from q4, show fr 5 = _ from q5, show fr 6 = _ from q6, show fr 7 = _ from q7, show fr 42 = _ from q42, show fr 43 = _ from q43]
  clear q3 q4 q5 q6 q7 q42 q43
  conv => arg 2; whnf
  go_wp2_with fail
  refine Met.intro (hS _ _ ?_)
  exact ⟨⟨by omega, by omega⟩, v6, xs, v7, ys, hpre, hW, Fr.of _ rfl ⟨rfl, rfl, rfl, rfl, rfl, rfl, rfl, trivial⟩⟩

set_option maxRecDepth 100000 in
set_option maxHeartbeats 1000000 in
theorem fwAloop (n₀ : Nat) (w0 : World) (v4 : Value) (ts : List ByteArray) (v5 : Value) (rs : List (List ByteArray)) (vs : List Value) (B : Nat) (r : Int) (hr : 0 ≤ r ∧ r ≤ 3) : T3 Try.prog (fun a w => fwAI n₀ w0 v4 ts v5 rs vs B r hr 0 a w) (sel [1, 1, 1, 1, 1, 1, 1, 0, 1] fwB) (fun a w => ∃ (v6 : Value) (xs : List (Int × Int)) (v7 : Value) (ys : List (Int × Int)), (LgN 3 xs ∧ LgN 3 ys) ∧ (SC n₀ B (193) w0 v4 ts v5 rs vs (v6) (xs) (v7) (ys) w) ∧ Fr 115 [(3, .pointer (some ⟨n₀, 0, none⟩)), (4, v4), (5, v5), (6, v6), (7, v7)] a) No 9 No := by
  refine T3.loop (c := (sel [1, 1, 1, 1, 1, 1, 1, 0, 1, 4, 4] fwB)) (fun ng_ a w => ∃ k : Int, (ng_ : Int) = r - k ∧ fwAI n₀ w0 v4 ts v5 rs vs B r hr k a w) (fun a w h => ⟨(r : Int).toNat, 0, by have := h.1.2; omega, h⟩) (fun ng_ => T3.ex fun k => T3.pure fun hng_ => ?_)
  refine T3.seq (s := (sel [1, 1, 1, 1, 1, 1, 1, 0, 1, 4, 4, 0] fwB)) (c := (sel [1, 1, 1, 1, 1, 1, 1, 0, 1, 4, 4, 1] fwB)) ((fwAt n₀ w0 v4 ts v5 rs vs B r hr k).noX) ?_
  refine T3.seq (s := (sel [1, 1, 1, 1, 1, 1, 1, 0, 1, 4, 4, 1, 0] fwB)) (c := (sel [1, 1, 1, 1, 1, 1, 1, 0, 1, 4, 4, 1, 1] fwB)) (S := fun a w => (0 ≤ k ∧ k < r) ∧ ∃ (v6 : Value) (xs : List (Int × Int)) (v7 : Value) (ys : List (Int × Int)), (LgN k xs ∧ LgN k ys) ∧ (SC n₀ B (175 + 6 * (k : Int).toNat) w0 v4 ts v5 rs vs (v6) (xs) (v7) (ys) w) ∧ Fr 115 [(3, .pointer (some ⟨n₀, 0, none⟩)), (4, v4), (5, v5), (6, v6), (7, v7), (42, .int .i64 r), (43, .int .i64 k)] a) ?_ (T3.seq (s := (sel [1, 1, 1, 1, 1, 1, 1, 0, 1, 4, 4, 1, 1, 0] fwB)) (c := (sel [1, 1, 1, 1, 1, 1, 1, 0, 1, 4, 4, 1, 1, 1] fwB)) (S := fun a w => (0 ≤ k ∧ k < r) ∧ ∃ (v6 : Value) (xs : List (Int × Int)) (v7 : Value) (ys : List (Int × Int)), (LgN (k + 1) xs ∧ LgN (k + 1) ys) ∧ (SC n₀ B (175 + 6 * ((k + 1) : Int).toNat) w0 v4 ts v5 rs vs (v6) (xs) (v7) (ys) w) ∧ Fr 115 [(3, .pointer (some ⟨n₀, 0, none⟩)), (4, v4), (5, v5), (6, v6), (7, v7), (42, .int .i64 r), (43, .int .i64 k)] a) (T3.noX (T3.mono (R' := fun a w => (0 ≤ k ∧ k < r) ∧ ∃ (v6 : Value) (xs : List (Int × Int)) (v7 : Value) (ys : List (Int × Int)), (LgN k xs ∧ LgN k ys) ∧ (SC n₀ B (175 + 6 * (k : Int).toNat) w0 v4 ts v5 rs vs (v6) (xs) (v7) (ys) w) ∧ Fr 115 [(3, .pointer (some ⟨n₀, 0, none⟩)), (4, v4), (5, v5), (6, v6), (7, v7), (42, .int .i64 r), (43, .int .i64 k)] a) (S' := fun a w => (0 ≤ k ∧ k < r) ∧ ∃ (v6 : Value) (xs : List (Int × Int)) (v7 : Value) (ys : List (Int × Int)), (LgN (k + 1) xs ∧ LgN (k + 1) ys) ∧ (SC n₀ B (175 + 6 * ((k + 1) : Int).toNat) w0 v4 ts v5 rs vs (v6) (xs) (v7) (ys) w) ∧ Fr 115 [(3, .pointer (some ⟨n₀, 0, none⟩)), (4, v4), (5, v5), (6, v6), (7, v7), (42, .int .i64 r), (43, .int .i64 k)] a) (fw11b n₀ w0 v4 ts v5 rs vs B r hr k) (fun a w ⟨hk, v6, xs, v7, ys, hp, hI⟩ => ⟨v6, xs, v7, ys, ⟨hk, hp⟩, hI⟩) (fun a w ⟨v6, xs, v7, ys, ⟨hk, hp⟩, hI⟩ => ⟨hk, v6, xs, v7, ys, hp, hI⟩) (fun _ _ q => q) (fun _ _ q => q))) ?_)
  · refine T3.cond (o := .tmp 44) (x := .skip) (y := .exit 0) (fun a w => k < r ∧ fwAI n₀ w0 v4 ts v5 rs vs B r hr k a w) (fun a w => ¬ k < r ∧ fwAI n₀ w0 v4 ts v5 rs vs B r hr k a w) ?_ (T3.skip ?_) (T3.exit ?_)
    · rintro a w ⟨q, hF, hq, hI⟩
      have he := hF.eval 44 (by decide) (v := .bool q) (by simp)
      cases q
      · exact .inr ⟨he, (fun h => by have := hq.2 h; cases this), hI⟩
      · exact .inl ⟨he, hq.1 rfl, hI⟩
    · rintro a w ⟨hlt, hk, hI⟩
      exact ⟨⟨hk.1, hlt⟩, hI⟩
    · rintro a w ⟨hlt, hk, hI⟩
      obtain rfl : k = r := by omega
      obtain ⟨v6, xs, v7, ys, ⟨hx, hy⟩, hW, hF⟩ := hI
      exact ⟨v6, xs, v7, ys, ⟨hx.mono (by omega), hy.mono (by omega)⟩, hW.mono (by omega), hF.sub (by simp)⟩
  · intro a w hx
    have hk := hx.1
    exact (((fwAn n₀ w0 v4 ts v5 rs vs B r hr k).noX).post (fun a w q => ⟨ng_ - 1, by omega, k + 1, by omega, q⟩)) a w hx
set_option maxRecDepth 100000 in
set_option maxHeartbeats 1000000 in
theorem fw13 (n₀ : Nat) (w0 : World) (v4 : Value) (ts : List ByteArray) (v5 : Value) (rs : List (List ByteArray)) (vs : List Value) (B : Nat) (v6 : Value) (xs : List (Int × Int)) (v7 : Value) (ys : List (Int × Int)) : T3 Try.prog (fun a w => (SC n₀ B (193) w0 v4 ts v5 rs vs (v6) (xs) (v7) (ys) w) ∧ Fr 115 [(3, .pointer (some ⟨n₀, 0, none⟩)), (4, v4), (5, v5), (6, v6), (7, v7)] a) (sel [1, 1, 1, 1, 1, 1, 1, 1, 0, 0] fwB) (fun a w => ∃ q, Fr 115 ((57, .bool q) :: [(3, .pointer (some ⟨n₀, 0, none⟩)), (4, v4), (5, v5), (6, v6), (7, v7)]) a ∧ (True ∧ SC n₀ B (194) w0 v4 ts v5 rs vs (v6) (xs) (v7) (ys) w)) No 9 No := by
  refine T3.leaf ?_
  rintro Q JS JX JT K hS hK hX hE hT hR a w ⟨hW, ⟨fr, rfl, q3, q4, q5, q6, q7, _⟩⟩
  have HW := Lib.hid hW
  obtain ⟨p4, c4, hv4⟩ := hW.h4.slice
  subst hv4
  obtain ⟨p5, c5, hv5⟩ := hW.h5.slice
  subst hv5
  obtain ⟨p6, c6, hv6⟩ := (Row.of_owns hW.rx).shape
  subst hv6
  obtain ⟨p7, c7, hv7⟩ := (Row.of_owns hW.ry).shape
  subst hv7
  rw [fr_fwB, show fr 3 = _ from q3, show fr 4 = _ from q4, show fr 5 = _ from q5, show fr 6 = _ from q6, show fr 7 = _ from q7]
  clear q3 q4 q5 q6 q7
  conv => arg 2; whnf
  go_wp2_with fail
  refine (flip_d n₀ 193 12 w hW.s rfl (by decide)).mono ?_
  rintro e w1 ⟨q, rfl, hd⟩
  have HW1 := Lib.hid (HW.out.drawn hd)
  clear hW hd
  go_wp2_with fail
  refine Met.intro (hS _ _ ?_)
  exact ⟨q, Fr.of _ rfl ⟨rfl, rfl, rfl, rfl, rfl, rfl, trivial⟩, trivial, HW1.out⟩

set_option maxRecDepth 100000 in
set_option maxHeartbeats 1000000 in
theorem fw14 (n₀ : Nat) (w0 : World) (v4 : Value) (ts : List ByteArray) (v5 : Value) (rs : List (List ByteArray)) (vs : List Value) (B : Nat) (v6 : Value) (xs : List (Int × Int)) (v7 : Value) (ys : List (Int × Int)) (hy : LgN 3 ys) : T3 Try.prog (fun a w => (SC n₀ B (194) w0 v4 ts v5 rs vs (v6) (xs) (v7) (ys) w) ∧ Fr 115 [(3, .pointer (some ⟨n₀, 0, none⟩)), (4, v4), (5, v5), (6, v6), (7, v7)] a) (sel [1, 1, 1, 1, 1, 1, 1, 1, 0, 1, 2] fwB) (fun a w => ∃ (v7' : Value) (ys' : List (Int × Int)), (LgN 4 ys') ∧ (SC n₀ B (197) w0 v4 ts v5 rs vs (v6) (xs) (v7') (ys') w) ∧ Fr 115 [(3, .pointer (some ⟨n₀, 0, none⟩)), (4, v4), (5, v5), (6, v6), (7, v7')] a) No 9 No := by
  refine T3.leaf ?_
  rintro Q JS JX JT K hS hK hX hE hT hR a w ⟨hW, ⟨fr, rfl, q3, q4, q5, q6, q7, _⟩⟩
  have hyn := hy.n
  have hy30 : ys.length ≤ 30 := by omega
  have hY := Lib.hid hy
  have hE := el_fracL
  clear hyn hy
  obtain ⟨p4, c4, hv4⟩ := hW.h4.slice
  subst hv4
  obtain ⟨p5, c5, hv5⟩ := hW.h5.slice
  subst hv5
  obtain ⟨p6, c6, hv6⟩ := (Row.of_owns hW.rx).shape
  subst hv6
  obtain ⟨p7, c7, hv7⟩ := (Row.of_owns hW.ry).shape
  subst hv7
  rw [fr_fwB, show fr 3 = _ from q3, show fr 4 = _ from q4, show fr 5 = _ from q5, show fr 6 = _ from q6, show fr 7 = _ from q7]
  clear q3 q4 q5 q6 q7
  conv => arg 2; whnf
  go_wp2_with fail
  refine (worth_any n₀ 194 w hW.s (by omega)).mono ?_
  rintro e w1 ⟨p, rfl, hp, hd⟩
  have h1 := hW.drawn hd
  have hz1 := h1.hs
  clear hd hW
  go_wp2_with (at_builtin; refine app_lawA rfl _ _ _ rfl hE (h1.ry.alloc _) rfl [.int .i64 p.1, .int .i64 p.2] rfl rfl (cells_new w1 #[_, _] _) (by simp [Value.oneCell']) (by omega) (by simp; omega) ?_; intro v7' w2 ho2 hg2 ha2)
  have h2 := (h1.alloc _).appY ho2 hg2 ha2
  clear h1 hz1 ho2 hg2 ha2
  refine Met.intro (hS _ _ ?_)
  exact ⟨_, _, hY.out.snoc hp, h2, Fr.of _ rfl ⟨rfl, rfl, rfl, rfl, rfl, trivial⟩⟩

/-- All that the stream hands out. -/
theorem fw_data (n₀ : Nat) (w0 : World) (T : Rel) (hrest : T3 Try.prog (fun a w => ∃ (v4 : Value) (ts : List ByteArray) (v5 : Value) (rs : List (List ByteArray)) (v6 : Value) (xs : List (Int × Int)) (v7 : Value) (ys : List (Int × Int)), (FF n₀ w0 v4 ts v5 rs v6 xs v7 ys w) ∧ Fr 115 [(4, v4), (5, v5), (6, v6), (7, v7)] a) (sel [1, 1, 1, 1, 1, 1, 1, 1, 1] fwB) No No 9 T) : T3 Try.prog (fun a w => (Str n₀ w 0 ∧ Below n₀ w0 w ∧ n₀ + 1 ≤ w.heap.size) ∧ Fr 115 [(3, .pointer (some ⟨n₀, 0, none⟩))] a) (sel [1, 1] fwB) No No 9 T := by
  refine T3.seq (s := (sel [1, 1, 0] fwB)) (c := (sel [1, 1, 1] fwB)) (T3.noT (fw2 n₀ w0)) ?_
  refine T3.ex fun M => T3.ex fun v4 => T3.ex fun ts => T3.pure fun ht6 => ?_
  obtain ⟨ht, h6⟩ := ht6
  refine T3.seq (s := (sel [1, 1, 1, 0] fwB)) (c := (sel [1, 1, 1, 1] fwB)) (S := (fun a w => ∃ (M : Nat) (v4 : Value) (ts : List ByteArray), (TsN ts) ∧ (SO n₀ M (3) w0 v4 ts w) ∧ Fr 115 [(3, .pointer (some ⟨n₀, 0, none⟩)), (4, v4)] a)) (T3.noT ?_) (T3.ex fun M => T3.ex fun v4 => T3.ex fun ts => T3.pure fun ht => ?_)
  · refine T3.test (s := (sel [1, 1, 1, 0, 0] fwB)) (x := (sel [1, 1, 1, 0, 1, 2] fwB)) (y := .skip) (C := fun _ => True) (W := fun w => SO n₀ M (2) w0 v4 ts w) (by decide) (fw3 n₀ w0 M v4 ts) ((fw4 n₀ w0 M v4 ts ht h6).pre (fun a w q => ⟨q.2.2, q.1.tail⟩)) (T3.skip ?_)
    rintro a w ⟨_, hW, hF⟩
    exact ⟨M, v4, ts, ht, hW.mono (by omega), hF⟩
  refine T3.seq (s := (sel [1, 1, 1, 1, 0] fwB)) (c := (sel [1, 1, 1, 1, 1] fwB)) (T3.noT (fw5 n₀ w0 M v4 ts ht)) ?_
  refine T3.ex fun M => T3.ex fun v5 => T3.ex fun rs => T3.ex fun vs => ?_
  refine T3.seq (s := (sel [1, 1, 1, 1, 1, 0] fwB)) (c := (sel [1, 1, 1, 1, 1, 1] fwB)) (S := (fun a w => ∃ (M : Nat) (v5 : Value) (rs : List (List ByteArray)) (vs : List Value), (SB n₀ M (174) 6 w0 v4 ts v5 rs vs w) ∧ Fr 115 [(3, .pointer (some ⟨n₀, 0, none⟩)), (4, v4), (5, v5)] a)) (T3.noT ?_) (T3.ex fun M => T3.ex fun v5 => T3.ex fun rs => T3.ex fun vs => ?_)
  · refine T3.test (s := (sel [1, 1, 1, 1, 1, 0, 0] fwB)) (x := (sel [1, 1, 1, 1, 1, 0, 1, 2] fwB)) (y := .skip) (C := fun _ => True) (W := fun w => SB n₀ M (174) 5 w0 v4 ts v5 rs vs w) (by decide) (fw6 n₀ w0 v4 ts M v5 rs vs) (((fw7 n₀ w0 v4 ts M v5 rs vs).pre (fun a w q => ⟨q.2.2, q.1.tail⟩)).post (fun a w ⟨v, r, s, q⟩ => ⟨M, v, r, s, q⟩)) (T3.skip ?_)
    rintro a w ⟨_, hW, hF⟩
    exact ⟨M, v5, rs, vs, hW.mono (by omega), hF⟩
  refine T3.seq (s := (sel [1, 1, 1, 1, 1, 1, 0] fwB)) (c := (sel [1, 1, 1, 1, 1, 1, 1] fwB)) (T3.noT (fw8 n₀ w0 v4 ts M v5 rs vs)) ?_
  refine T3.ex fun B => T3.pure fun hrs => ?_
  refine T3.seq (s := (sel [1, 1, 1, 1, 1, 1, 1, 0] fwB)) (c := (sel [1, 1, 1, 1, 1, 1, 1, 1] fwB)) (T3.noT (T3.seq (s := (sel [1, 1, 1, 1, 1, 1, 1, 0, 0] fwB)) (c := (sel [1, 1, 1, 1, 1, 1, 1, 0, 1] fwB)) (fw9 n₀ w0 v4 ts v5 rs vs B) (T3.ex fun r => T3.pure fun hr => fwAloop n₀ w0 v4 ts v5 rs vs B r hr))) ?_
  refine T3.ex fun v6 => T3.ex fun xs => T3.ex fun v7 => T3.ex fun ys => T3.pure fun hl => ?_
  refine T3.seq (s := (sel [1, 1, 1, 1, 1, 1, 1, 1, 0] fwB)) (c := (sel [1, 1, 1, 1, 1, 1, 1, 1, 1] fwB)) (S := (fun a w => ∃ (v4 : Value) (ts : List ByteArray) (v5 : Value) (rs : List (List ByteArray)) (v6 : Value) (xs : List (Int × Int)) (v7 : Value) (ys : List (Int × Int)), (FF n₀ w0 v4 ts v5 rs v6 xs v7 ys w) ∧ Fr 115 [(4, v4), (5, v5), (6, v6), (7, v7)] a)) (T3.noT ?_) hrest
  refine T3.test (s := (sel [1, 1, 1, 1, 1, 1, 1, 1, 0, 0] fwB)) (x := (sel [1, 1, 1, 1, 1, 1, 1, 1, 0, 1, 2] fwB)) (y := .skip) (C := fun _ => True) (W := fun w => SC n₀ B (194) w0 v4 ts v5 rs vs (v6) (xs) (v7) (ys) w) (by decide) (fw13 n₀ w0 v4 ts v5 rs vs B v6 xs v7 ys) (((fw14 n₀ w0 v4 ts v5 rs vs B v6 xs v7 ys hl.2).pre (fun a w q => ⟨q.2.2, q.1.tail⟩)).post (fun a w ⟨v, y, hy, hW, hF⟩ => ⟨v4, ts, v5, rs, v6, xs, v, y, hW.done ht hrs hl.1 (by decide) hy (by decide), hF.sub (by simp)⟩)) (T3.skip ?_)
  rintro a w ⟨_, hW, hF⟩
  exact ⟨v4, ts, v5, rs, v6, xs, v7, ys, hW.done ht hrs hl.1 (by decide) hl.2 (by decide), hF.sub (by simp)⟩
end Go.Proofs.Ytkdimgghljklmaa
/-
  The law FinalsPlayed: its walk from end to end. No condition.
-/
set_option linter.unusedVariables false
namespace Go.Proofs.Ytkdimgghljklmaa
open Go.RowKit Go.Bw
theorem equal_strF (v1 v2 : Value) (n : Nat) (l : List ByteArray) (b1 b2 : Nat) (w : World) (h1 : Row w b1 1 v1 n (cellsOf encSt l)) (h2 : Row w b2 1 v2 n (cellsOf encSt l)) :
    Calls Try.prog 23 #[v1, v2] w fun e w' => e = .returned (.bool true) ∧ Below w.heap.size w w' := by
  obtain ⟨hl, hc⟩ := h1.els encSt_length (by decide)
  subst hl
  obtain ⟨_, hc2⟩ := h2.els encSt_length (by decide)
  obtain ⟨p2, c2, hv2⟩ := h2.shape
  rcases hc with ⟨rfl, h0⟩ | ⟨b, off, cap, rfl, _, hbs, hnc, hcm, hcell⟩
  · subst hv2
    rw [h0]
    refine (Try.slices_Equal_string_empty none p2 0 0 c2 w (by decide)).mono ?_
    rintro e w' ⟨rfl, rfl⟩
    exact ⟨rfl, Below.refl _ _⟩
  · rcases hc2 with ⟨rfl, h0⟩ | ⟨b', off', cap', rfl, _, hbs', hnc', hcm', hcell'⟩
    · rw [h0]
      refine (Try.slices_Equal_string_empty _ none cap 0 0 w (by decide)).mono ?_
      rintro e w' ⟨rfl, rfl⟩
      exact ⟨rfl, Below.refl _ _⟩
    · refine (Try.slices_Equal_string b off l.length cap b' off' l.length cap' l l w (Nat.le_refl _) (Nat.le_refl _) (by omega) (by omega) (fun j hj => ?_) (fun j hj => ?_)).mono ?_
      · have := hcell (j : Int) (by omega) (by omega) 0 _ rfl
        rw [geta_eq l j (by omega) (by omega)] at this
        simpa [List.getD, hj] using this
      · have := hcell' (j : Int) (by omega) (by omega) 0 _ rfl
        rw [geta_eq l j (by omega) (by omega)] at this
        simpa [List.getD, hj] using this
      · rintro e w' ⟨rfl, q, rfl⟩
        exact ⟨by simp, below_drewN (Below.refl _ _) q⟩
/-- What the program has answered. -/
structure FA (n₀ : Nat) (w0 : World) (v4 : Value) (ts : List ByteArray) (v5 : Value) (rs : List (List ByteArray)) (v6 : Value) (xs : List (Int × Int)) (v7 : Value) (ys : List (Int × Int)) (v8 : Value) (w : World) : Prop where
  f : FF n₀ w0 v4 ts v5 rs v6 xs v7 ys w
  r : Row w 0 1 v8 (playL ts rs).length (cellsOf encSt (playL ts rs))
structure FB (n₀ : Nat) (w0 : World) (v4 : Value) (ts : List ByteArray) (v5 : Value) (rs : List (List ByteArray)) (v6 : Value) (xs : List (Int × Int)) (v7 : Value) (ys : List (Int × Int)) (v8 v12 : Value) (w : World) : Prop where
  a : FA n₀ w0 v4 ts v5 rs v6 xs v7 ys v8 w
  r : Row w 0 1 v12 (playL ts rs).length (cellsOf encSt (playL ts rs))
section
variable {n₀ : Nat} {w0 w w' : World} {v4 v5 v6 v7 v8 v12 : Value} {ts : List ByteArray} {rs : List (List ByteArray)} {xs ys : List (Int × Int)}
theorem FA.below (h : FA n₀ w0 v4 ts v5 rs v6 xs v7 ys v8 w) (b : Below w.heap.size w w') : FA n₀ w0 v4 ts v5 rs v6 xs v7 ys v8 w' := ⟨h.f.below b, h.r.below b⟩
theorem FB.below (h : FB n₀ w0 v4 ts v5 rs v6 xs v7 ys v8 v12 w) (b : Below w.heap.size w w') : FB n₀ w0 v4 ts v5 rs v6 xs v7 ys v8 v12 w' := ⟨h.a.below b, h.r.below b⟩
end
set_option maxRecDepth 100000 in
set_option maxHeartbeats 1000000 in
theorem fw15 (n₀ : Nat) (w0 : World) (v4 : Value) (ts : List ByteArray) (v5 : Value) (rs : List (List ByteArray)) (v6 : Value) (xs : List (Int × Int)) (v7 : Value) (ys : List (Int × Int)) : T3 Try.prog (fun a w => (FF n₀ w0 v4 ts v5 rs v6 xs v7 ys w) ∧ Fr 115 [(4, v4), (5, v5), (6, v6), (7, v7)] a) (sel [1, 1, 1, 1, 1, 1, 1, 1, 1, 0] fwB) (fun a w => ∃ (v8 : Value), (FA n₀ w0 v4 ts v5 rs v6 xs v7 ys v8 w) ∧ Fr 115 [(4, v4), (5, v5), (6, v6), (7, v7), (8, v8), (9, .int .i64 (playE ts rs))] a) No 9 No := by
  refine T3.leaf ?_
  rintro Q JS JX JT K hS hK hX hE hT hR a w ⟨hW, ⟨fr, rfl, q4, q5, q6, q7, _⟩⟩
  have HP := Lib.hid (play_prog w v4 v5 ts rs hW.pl)
  have HW := Lib.hid hW
  obtain ⟨p4, c4, hv4⟩ := hW.pl.s.t.shape
  subst hv4
  obtain ⟨p5, c5, hv5⟩ := hW.pl.r.shape
  subst hv5
  obtain ⟨p6, c6, hv6⟩ := hW.lx.r.shape
  subst hv6
  obtain ⟨p7, c7, hv7⟩ := hW.ly.r.shape
  subst hv7
  clear hW
  generalize hE1 : playE ts rs = eP at *
  clear hE1
  rw [fr_fwB, show fr 4 = _ from q4, show fr 5 = _ from q5, show fr 6 = _ from q6, show fr 7 = _ from q7]
  clear q4 q5 q6 q7
  conv => arg 2; whnf
  go_wp2_with fail
  refine HP.out.mono ?_
  rintro e w1 ⟨v8, rfl, ho, hb⟩
  have HR := Lib.hid (show FA n₀ w0 _ ts _ rs _ xs _ ys v8 w1 from ⟨HW.out.below hb, (Row.of_owns ho).mono (Nat.zero_le _)⟩)
  obtain ⟨p8, c8, hv8⟩ := (Row.of_owns ho).shape
  subst hv8
  clear ho hb
  go_wp2_with fail
  refine Met.intro (hS _ _ ?_)
  exact ⟨_, HR.out, Fr.of _ rfl ⟨rfl, rfl, rfl, rfl, rfl, rfl, trivial⟩⟩

set_option maxRecDepth 100000 in
set_option maxHeartbeats 1000000 in
theorem fw16 (n₀ : Nat) (w0 : World) (v4 : Value) (ts : List ByteArray) (v5 : Value) (rs : List (List ByteArray)) (v6 : Value) (xs : List (Int × Int)) (v7 : Value) (ys : List (Int × Int)) (v8 : Value) : T3 Try.prog (fun a w => (FA n₀ w0 v4 ts v5 rs v6 xs v7 ys v8 w) ∧ Fr 115 [(4, v4), (5, v5), (6, v6), (7, v7), (8, v8), (9, .int .i64 (playE ts rs))] a) (sel [1, 1, 1, 1, 1, 1, 1, 1, 1, 1, 0] fwB) (fun a w => (FA n₀ w0 v4 ts v5 rs v6 xs v7 ys v8 w) ∧ Fr 115 [(4, v4), (5, v5), (6, v6), (7, v7), (8, v8), (9, .int .i64 (playE ts rs)), (10, .int .i64 (legsR xs ys).1), (11, .int .i64 (legsR xs ys).2)] a) No 9 No := by
  refine T3.leaf ?_
  rintro Q JS JX JT K hS hK hX hE hT hR a w ⟨hW, ⟨fr, rfl, q4, q5, q6, q7, q8, q9, _⟩⟩
  have HP := Lib.hid (legs_prog w v6 v7 xs ys hW.f.lx hW.f.ly)
  have HW := Lib.hid hW
  obtain ⟨p8, c8, hv8⟩ := hW.r.shape
  subst hv8
  obtain ⟨p4, c4, hv4⟩ := hW.f.pl.s.t.shape
  subst hv4
  obtain ⟨p5, c5, hv5⟩ := hW.f.pl.r.shape
  subst hv5
  obtain ⟨p6, c6, hv6⟩ := hW.f.lx.r.shape
  subst hv6
  obtain ⟨p7, c7, hv7⟩ := hW.f.ly.r.shape
  subst hv7
  clear hW
  generalize (legsR xs ys).1 = q1 at *
  generalize (legsR xs ys).2 = q2 at *
  generalize playE ts rs = eP at *
  rw [fr_fwB, show fr 4 = _ from q4, show fr 5 = _ from q5, show fr 6 = _ from q6, show fr 7 = _ from q7, show fr 8 = _ from q8, show fr 9 = _ from q9]
  clear q4 q5 q6 q7 q8 q9
  conv => arg 2; whnf
  go_wp2_with fail
  refine HP.out.mono ?_
  rintro e w1 ⟨rfl, hb⟩
  have HR := Lib.hid (HW.out.below hb)
  clear hb
  go_wp2_with fail
  refine Met.intro (hS _ _ ?_)
  exact ⟨HR.out, Fr.of _ rfl ⟨rfl, rfl, rfl, rfl, rfl, rfl, rfl, rfl, trivial⟩⟩

set_option maxRecDepth 100000 in
set_option maxHeartbeats 1000000 in
theorem fw17 (n₀ : Nat) (w0 : World) (v4 : Value) (ts : List ByteArray) (v5 : Value) (rs : List (List ByteArray)) (v6 : Value) (xs : List (Int × Int)) (v7 : Value) (ys : List (Int × Int)) (v8 : Value) : T3 Try.prog (fun a w => (FA n₀ w0 v4 ts v5 rs v6 xs v7 ys v8 w) ∧ Fr 115 [(4, v4), (5, v5), (6, v6), (7, v7), (8, v8), (9, .int .i64 (playE ts rs)), (10, .int .i64 (legsR xs ys).1), (11, .int .i64 (legsR xs ys).2)] a) (sel [1, 1, 1, 1, 1, 1, 1, 1, 1, 1, 1, 0] fwB) (fun a w => ∃ (v12 : Value), (FB n₀ w0 v4 ts v5 rs v6 xs v7 ys v8 v12 w) ∧ Fr 115 [(4, v4), (5, v5), (6, v6), (7, v7), (8, v8), (9, .int .i64 (playE ts rs)), (10, .int .i64 (legsR xs ys).1), (11, .int .i64 (legsR xs ys).2), (12, v12), (13, .int .i64 (playE ts rs))] a) No 9 No := by
  refine T3.leaf ?_
  rintro Q JS JX JT K hS hK hX hE hT hR a w ⟨hW, ⟨fr, rfl, q4, q5, q6, q7, q8, q9, q10, q11, _⟩⟩
  have HP := Lib.hid (playof_ref w v4 v5 ts rs hW.f.pl)
  have HW := Lib.hid hW
  obtain ⟨p8, c8, hv8⟩ := hW.r.shape
  subst hv8
  obtain ⟨p4, c4, hv4⟩ := hW.f.pl.s.t.shape
  subst hv4
  obtain ⟨p5, c5, hv5⟩ := hW.f.pl.r.shape
  subst hv5
  obtain ⟨p6, c6, hv6⟩ := hW.f.lx.r.shape
  subst hv6
  obtain ⟨p7, c7, hv7⟩ := hW.f.ly.r.shape
  subst hv7
  clear hW
  generalize (legsR xs ys).1 = q1 at *
  generalize (legsR xs ys).2 = q2 at *
  generalize playE ts rs = eP at *
  rw [fr_fwB, show fr 4 = _ from q4, show fr 5 = _ from q5, show fr 6 = _ from q6, show fr 7 = _ from q7, show fr 8 = _ from q8, show fr 9 = _ from q9, show fr 10 = _ from q10, show fr 11 = _ from q11]
  clear q4 q5 q6 q7 q8 q9 q10 q11
  conv => arg 2; whnf
  go_wp2_with fail
  refine HP.out.mono ?_
  rintro e w1 ⟨v12, rfl, ho, hb⟩
  have HR := Lib.hid (show FB n₀ w0 _ ts _ rs _ xs _ ys _ v12 w1 from ⟨HW.out.below hb, (Row.of_owns ho).mono (Nat.zero_le _)⟩)
  obtain ⟨p12, c12, hv12⟩ := (Row.of_owns ho).shape
  subst hv12
  clear ho hb
  go_wp2_with fail
  refine Met.intro (hS _ _ ?_)
  exact ⟨_, HR.out, Fr.of _ rfl ⟨rfl, rfl, rfl, rfl, rfl, rfl, rfl, rfl, rfl, rfl, trivial⟩⟩

set_option maxRecDepth 100000 in
set_option maxHeartbeats 1000000 in
theorem fw18 (n₀ : Nat) (w0 : World) (v4 : Value) (ts : List ByteArray) (v5 : Value) (rs : List (List ByteArray)) (v6 : Value) (xs : List (Int × Int)) (v7 : Value) (ys : List (Int × Int)) (v8 : Value) (v12 : Value) : T3 Try.prog (fun a w => (FB n₀ w0 v4 ts v5 rs v6 xs v7 ys v8 v12 w) ∧ Fr 115 [(4, v4), (5, v5), (6, v6), (7, v7), (8, v8), (9, .int .i64 (playE ts rs)), (10, .int .i64 (legsR xs ys).1), (11, .int .i64 (legsR xs ys).2), (12, v12), (13, .int .i64 (playE ts rs))] a) (sel [1, 1, 1, 1, 1, 1, 1, 1, 1, 1, 1, 1, 0] fwB) (fun a w => (FB n₀ w0 v4 ts v5 rs v6 xs v7 ys v8 v12 w) ∧ Fr 115 [(4, v4), (5, v5), (6, v6), (7, v7), (8, v8), (9, .int .i64 (playE ts rs)), (10, .int .i64 (legsR xs ys).1), (11, .int .i64 (legsR xs ys).2), (12, v12), (13, .int .i64 (playE ts rs)), (14, .int .i64 (legsR xs ys).1), (15, .int .i64 (legsR xs ys).2)] a) No 9 No := by
  refine T3.leaf ?_
  rintro Q JS JX JT K hS hK hX hE hT hR a w ⟨hW, ⟨fr, rfl, q4, q5, q6, q7, q8, q9, q10, q11, q12, q13, _⟩⟩
  have HP := Lib.hid (legsof_ref w v6 v7 xs ys hW.a.f.lx hW.a.f.ly)
  have HW := Lib.hid hW
  obtain ⟨p8, c8, hv8⟩ := hW.a.r.shape
  subst hv8
  obtain ⟨p12, c12, hv12⟩ := hW.r.shape
  subst hv12
  obtain ⟨p4, c4, hv4⟩ := hW.a.f.pl.s.t.shape
  subst hv4
  obtain ⟨p5, c5, hv5⟩ := hW.a.f.pl.r.shape
  subst hv5
  obtain ⟨p6, c6, hv6⟩ := hW.a.f.lx.r.shape
  subst hv6
  obtain ⟨p7, c7, hv7⟩ := hW.a.f.ly.r.shape
  subst hv7
  clear hW
  generalize (legsR xs ys).1 = q1 at *
  generalize (legsR xs ys).2 = q2 at *
  generalize playE ts rs = eP at *
  rw [fr_fwB, show fr 4 = _ from q4, show fr 5 = _ from q5, show fr 6 = _ from q6, show fr 7 = _ from q7, show fr 8 = _ from q8, show fr 9 = _ from q9, show fr 10 = _ from q10, show fr 11 = _ from q11, show fr 12 = _ from q12, show fr 13 = _ from q13]
  clear q4 q5 q6 q7 q8 q9 q10 q11 q12 q13
  conv => arg 2; whnf
  go_wp2_with fail
  refine HP.out.mono ?_
  rintro e w1 ⟨rfl, hb⟩
  have HR := Lib.hid (HW.out.below hb)
  clear hb
  go_wp2_with fail
  refine Met.intro (hS _ _ ?_)
  exact ⟨HR.out, Fr.of _ rfl ⟨rfl, rfl, rfl, rfl, rfl, rfl, rfl, rfl, rfl, rfl, rfl, rfl, trivial⟩⟩

set_option maxRecDepth 100000 in
set_option maxHeartbeats 2000000 in
theorem fw19 (n₀ : Nat) (w0 : World) (v4 : Value) (ts : List ByteArray) (v5 : Value) (rs : List (List ByteArray)) (v6 : Value) (xs : List (Int × Int)) (v7 : Value) (ys : List (Int × Int)) (v8 : Value) (v12 : Value) : T3 Try.prog (fun a w => (FB n₀ w0 v4 ts v5 rs v6 xs v7 ys v8 v12 w) ∧ Fr 115 [(4, v4), (5, v5), (6, v6), (7, v7), (8, v8), (9, .int .i64 (playE ts rs)), (10, .int .i64 (legsR xs ys).1), (11, .int .i64 (legsR xs ys).2), (12, v12), (13, .int .i64 (playE ts rs)), (14, .int .i64 (legsR xs ys).1), (15, .int .i64 (legsR xs ys).2)] a) (sel [1, 1, 1, 1, 1, 1, 1, 1, 1, 1, 1, 1, 1, 0] fwB) (fun a w => (Below n₀ w0 w) ∧ Fr 115 [(2, .bool true)] a) No 9 No := by
  refine T3.leaf ?_
  rintro Q JS JX JT K hS hK hX hE hT hR a w ⟨hW, ⟨fr, rfl, q4, q5, q6, q7, q8, q9, q10, q11, q12, q13, q14, q15, _⟩⟩
  have HA := Lib.hid (seeds_prog w v4 ts hW.a.f.pl.s)
  have HB := Lib.hid (seeds_ref w v4 ts hW.a.f.pl.s)
  have HQ := Lib.hid (equal_strF v8 v12 _ _ 0 0 w hW.a.r hW.r)
  have HW := Lib.hid hW
  obtain ⟨p8, c8, hv8⟩ := hW.a.r.shape
  subst hv8
  obtain ⟨p12, c12, hv12⟩ := hW.r.shape
  subst hv12
  obtain ⟨p4, c4, hv4⟩ := hW.a.f.pl.s.t.shape
  subst hv4
  obtain ⟨p5, c5, hv5⟩ := hW.a.f.pl.r.shape
  subst hv5
  obtain ⟨p6, c6, hv6⟩ := hW.a.f.lx.r.shape
  subst hv6
  obtain ⟨p7, c7, hv7⟩ := hW.a.f.ly.r.shape
  subst hv7
  clear hW
  generalize (legsR xs ys).1 = q1 at *
  generalize (legsR xs ys).2 = q2 at *
  generalize playE ts rs = eP at *
  generalize seedsE ts = eS at *
  rw [fr_fwB, show fr 4 = _ from q4, show fr 5 = _ from q5, show fr 6 = _ from q6, show fr 7 = _ from q7, show fr 8 = _ from q8, show fr 9 = _ from q9, show fr 10 = _ from q10, show fr 11 = _ from q11, show fr 12 = _ from q12, show fr 13 = _ from q13, show fr 14 = _ from q14, show fr 15 = _ from q15]
  clear q4 q5 q6 q7 q8 q9 q10 q11 q12 q13 q14 q15
  conv => arg 2; whnf
  go_wp2_with fail
  refine HA.out.mono ?_
  rintro e w1 ⟨rfl, rfl⟩
  go_wp2_with fail
  refine HB.out.mono ?_
  rintro e w1 ⟨rfl, rfl⟩
  go_wp2_with fail
  refine HQ.out.mono ?_
  rintro e w1 ⟨rfl, hb⟩
  have HL := Lib.hid (HW.out.below hb)
  clear hb
  go_wp2_with fail
  refine (finished_any w1).mono ?_
  rintro e w2 ⟨rfl, hb⟩
  have HL2 := Lib.hid (HL.out.below hb)
  clear hb
  go_wp2_with fail
  refine Met.intro (hS _ _ ?_)
  exact ⟨HL2.out.a.f.bel, Fr.of _ rfl ⟨rfl, trivial⟩⟩

set_option maxRecDepth 100000 in
set_option maxHeartbeats 1000000 in
theorem finals_law (v : Value) (n : Nat) (zs : List Int) (w0 : World) (h : SRow w0 v n zs w0.heap.size) :
    Calls Try.prog 4 #[v] w0 fun e w' => e = .returned (.bool true) ∧ Below w0.heap.size w0 w' := by
  have hall : T3 Try.prog (fun a w => IsW w0 w ∧ Fr 115 [(0, v)] a) fwB No No 9 (fun a w => Below w0.heap.size w0 w ∧ Fr 115 [(2, .bool true)] a) := by
    refine T3.seq (s := (sel [0] fwB)) (c := (sel [1] fwB)) (T3.noT (fw0 v w0)) ?_
    refine T3.seq (s := (sel [1, 0] fwB)) (c := (sel [1, 1] fwB)) (T3.noT (fw1 v n zs w0 h)) ?_
    refine fw_data _ w0 _ ?_
    refine T3.ex fun v4 => T3.ex fun ts => T3.ex fun v5 => T3.ex fun rs => T3.ex fun v6 => T3.ex fun xs => T3.ex fun v7 => T3.ex fun ys => ?_
    refine T3.seq (s := (sel [1, 1, 1, 1, 1, 1, 1, 1, 1, 0] fwB)) (c := (sel [1, 1, 1, 1, 1, 1, 1, 1, 1, 1] fwB)) (T3.noT (fw15 _ w0 v4 ts v5 rs v6 xs v7 ys)) ?_
    refine T3.ex fun v8 => ?_
    refine T3.seq (s := (sel [1, 1, 1, 1, 1, 1, 1, 1, 1, 1, 0] fwB)) (c := (sel [1, 1, 1, 1, 1, 1, 1, 1, 1, 1, 1] fwB)) (T3.noT (fw16 _ w0 v4 ts v5 rs v6 xs v7 ys v8)) ?_
    refine T3.seq (s := (sel [1, 1, 1, 1, 1, 1, 1, 1, 1, 1, 1, 0] fwB)) (c := (sel [1, 1, 1, 1, 1, 1, 1, 1, 1, 1, 1, 1] fwB)) (T3.noT (fw17 _ w0 v4 ts v5 rs v6 xs v7 ys v8)) ?_
    refine T3.ex fun v12 => ?_
    refine T3.seq (s := (sel [1, 1, 1, 1, 1, 1, 1, 1, 1, 1, 1, 1, 0] fwB)) (c := (sel [1, 1, 1, 1, 1, 1, 1, 1, 1, 1, 1, 1, 1] fwB)) (T3.noT (fw18 _ w0 v4 ts v5 rs v6 xs v7 ys v8 v12)) ?_
    refine T3.seq (s := (sel [1, 1, 1, 1, 1, 1, 1, 1, 1, 1, 1, 1, 1, 0] fwB)) (c := (sel [1, 1, 1, 1, 1, 1, 1, 1, 1, 1, 1, 1, 1, 1] fwB)) (T3.noT (fw19 _ w0 v4 ts v5 rs v6 xs v7 ys v8 v12)) ?_
    exact T3.ret (fun a w q => q)
  go_enter Try.func4, Try.ntmps4
  refine T3.done (s := fwB) hall ⟨rfl, Fr.of _ rfl ⟨rfl, trivial⟩⟩ ?_
  rintro a w ⟨hb, fr, rfl, q2, _⟩
  rw [fr_fwB, show fr 2 = _ from q2]
  go_ret
  exact ⟨rfl, hb⟩
end Go.Proofs.Ytkdimgghljklmaa
