/-
  What a law owns while it draws: a stream's block and one row of ints. No condition on a program.
-/
import Derived.Test.YtbidnbcclibigaaDoorGenL
namespace Go.Bw
open Go.RowKit

/-- Block n₀ is a stream drawn at most b times; v is a row of the ints l, owned from block B on; the blocks below n₀ are as in w0. -/
structure GenS (n₀ B : Nat) (w0 w : World) (b : Nat) (v : Value) (l : List Int) : Prop where
  bel : Below n₀ w0 w
  str : Str n₀ w b
  hB : n₀ < B
  hs : B ≤ w.heap.size
  row : w.ownsRow B 3 1 v l.length (l.map (.int .i64))

theorem GenS.nil {n₀ b : Nat} {w0 w : World} (h : Below n₀ w0 w) (hS : Str n₀ w b) : GenS n₀ w.heap.size w0 w b (.slice none 0 0) [] :=
  ⟨h, hS, hS.lt, Nat.le_refl _, ⟨rfl, .inl ⟨rfl, rfl⟩⟩⟩

theorem GenS.again {n₀ B b : Nat} {w0 w : World} {v : Value} {l : List Int} (h : GenS n₀ B w0 w b v l) : GenS n₀ w.heap.size w0 w b (.slice none 0 0) [] := GenS.nil h.bel h.str

theorem GenS.drawn {n₀ B b b' : Nat} {w0 w w' : World} {v : Value} {l : List Int} (h : GenS n₀ B w0 w b v l) (hS : Str n₀ w' b') (g : w.grownBy w' (some n₀)) : GenS n₀ B w0 w' b' v l :=
  ⟨below_str h.bel g (Nat.le_refl _) (Nat.le_of_lt h.str.lt), hS, h.hB, Nat.le_trans h.hs g.size, owns_str h.row g h.hB⟩

theorem GenS.mono {n₀ B b b' : Nat} {w0 w : World} {v : Value} {l : List Int} (h : GenS n₀ B w0 w b v l) (hb : b ≤ b') : GenS n₀ B w0 w b' v l :=
  ⟨h.bel, h.str.mono hb, h.hB, h.hs, h.row⟩

theorem GenS.alloc {n₀ B b : Nat} {w0 w : World} {v : Value} {l : List Int} (h : GenS n₀ B w0 w b v l) (o : Obj) : GenS n₀ B w0 (w.alloc o) b v l :=
  ⟨h.bel.alloc (Nat.le_of_lt h.str.lt) o, h.str.alloc o, h.hB, by have := h.hs; simp; omega, h.row.alloc o⟩

theorem GenS.drew {n₀ B b : Nat} {w0 w : World} {v : Value} {l : List Int} (h : GenS n₀ B w0 w b v l) : GenS n₀ B w0 w.drew b v l :=
  ⟨⟨h.bel.os, h.bel.tape, h.bel.output, h.bel.size, h.bel.block⟩, h.str, h.hB, h.hs, h.row⟩

theorem GenS.drewN {n₀ B b : Nat} {w0 w : World} {v : Value} {l : List Int} (h : GenS n₀ B w0 w b v l) (k : Nat) : GenS n₀ B w0 (w.drewN k) b v l :=
  ⟨⟨h.bel.os, h.bel.tape, h.bel.output, h.bel.size, h.bel.block⟩, h.str, h.hB, h.hs, h.row⟩

/-- A call that leaves all the blocks there are alone. -/
theorem GenS.below {n₀ B b : Nat} {w0 w w' : World} {v : Value} {l : List Int} (h : GenS n₀ B w0 w b v l) (g : Below w.heap.size w w') : GenS n₀ B w0 w' b v l :=
  ⟨h.bel.trans (g.mono (Nat.le_of_lt h.str.lt)), h.str.below g, h.hB, Nat.le_trans h.hs g.size, owns_below h.row g (Nat.le_refl _)⟩

theorem GenS.app {n₀ B b : Nat} {w0 w w' : World} {v v' : Value} {l : List Int} {x : Int} (h : GenS n₀ B w0 w b v l) (ho : w'.ownsRow B 3 1 v' (l.length + 1) (l.map (.int .i64) ++ [.int .i64 x]))
    (g : w.grownBy w' v.ownBlock) : GenS n₀ B w0 w' b v' (l ++ [x]) :=
  ⟨below_grown h.bel h.row g (Nat.le_of_lt h.hB) (Nat.le_of_lt h.str.lt), h.str.app h.row g h.hB, h.hB, Nat.le_trans h.hs g.size, by simpa using ho⟩

theorem GenS.slice {n₀ B b : Nat} {w0 w : World} {v : Value} {l : List Int} (h : GenS n₀ B w0 w b v l) : ∃ a c, v = .slice a l.length c := by
  rcases h.row.2 with ⟨rfl, h0⟩ | ⟨g, cap, cur, rfl, _⟩
  · exact ⟨_, _, by rw [h0]⟩
  · exact ⟨_, _, rfl⟩

theorem GenS.blk {n₀ B b : Nat} {w0 w : World} {v : Value} {l : List Int} (h : GenS n₀ B w0 w b v l) (hl : 0 < l.length) : ∃ g c, v = .slice (some ⟨g, 0, none⟩) l.length c := by
  rcases h.row.2 with ⟨rfl, h0⟩ | ⟨g, cap, cur, rfl, _⟩
  · omega
  · exact ⟨_, _, rfl⟩

theorem GenS.cell {n₀ B b g c : Nat} {w0 w : World} {l : List Int} (h : GenS n₀ B w0 w b (.slice (some ⟨g, 0, none⟩) l.length c) l) (r : Int) (h0 : 0 ≤ r) (h1 : r < l.length) :
    w.cell? ⟨g, r.toNat, none⟩ = some (.int .i64 (geti l r)) ∧ w.frozen? ⟨g, r.toNat, none⟩ = false := by
  refine ⟨ints_of_owns h.row r h0 h1, ?_⟩
  rcases h.row.2 with ⟨h2, _⟩ | ⟨g', cap, cur, hv, _, hg, _⟩
  · cases h2
  · simp only [Value.slice.injEq, Option.some.injEq, Addr.mk.injEq] at hv
    obtain ⟨⟨rfl, _⟩, _, rfl⟩ := hv
    unfold World.frozen?
    rw [hg]
    simp

theorem GenS.set {n₀ B b g cap : Nat} {w0 w : World} {l : List Int} (h : GenS n₀ B w0 w b (.slice (some ⟨g, 0, none⟩) l.length cap) l) (i : Nat) (hi : i < l.length) (u : Int) :
    GenS n₀ B w0 (w.setCell ⟨g, i, none⟩ (.int .i64 u)) b (.slice (some ⟨g, 0, none⟩) (l.set i u).length cap) (l.set i u) := by
  have hg := (owns_sizes h.row).1
  have hB := h.hB
  have hgr := grown_setCell w g i (.int .i64 u)
  refine ⟨h.bel.grown hgr (Nat.le_of_lt h.str.lt) (fun k hk => by cases hk; omega), h.str.kept hgr (fun k hk => by cases hk; omega), hB, Nat.le_trans h.hs hgr.size, ?_⟩
  rw [List.length_set]
  exact owns_set h.row i hi u

/-- v is a row that is only read: its block lies between the stream's and block B. -/
structure Held (n₀ B : Nat) (w : World) (sz n : Nat) (v : Value) (cs : List Value) : Prop where
  row : Row w 0 sz v n cs
  lt : ∀ k, v.ownBlock = some k → n₀ < k ∧ k < B

theorem Held.grow {n₀ B sz n : Nat} {w w' : World} {v : Value} {cs : List Value} {row : Option Nat} (h : Held n₀ B w sz n v cs) (g : w.grownBy w' row) (hr : ∀ k, row = some k → k = n₀ ∨ B ≤ k) : Held n₀ B w' sz n v cs := by
  refine ⟨?_, h.lt⟩
  obtain ⟨⟨h1, h2⟩, hlt⟩ := h
  refine ⟨h1, ?_⟩
  rcases h2 with h2 | ⟨b, off, cap, rfl, hb, hl, hn, hc, hcell⟩
  · exact .inl h2
  · refine .inr ⟨b, off, cap, rfl, hb, Nat.lt_of_lt_of_le hl g.size, hn, hc, fun i u hu => ?_⟩
    rw [World.cell?_of_block (w := w) (g.block b hl (fun e => by have := hr b e.symm; have := hlt b rfl; omega))]
    exact hcell i u hu

theorem Held.str {n₀ B sz n : Nat} {w w' : World} {v : Value} {cs : List Value} (h : Held n₀ B w sz n v cs) (g : w.grownBy w' (some n₀)) : Held n₀ B w' sz n v cs :=
  h.grow g (fun k hk => by cases hk; exact .inl rfl)
theorem Held.alloc {n₀ B sz n : Nat} {w : World} {v : Value} {cs : List Value} (h : Held n₀ B w sz n v cs) (o : Obj) : Held n₀ B (w.alloc o) sz n v cs :=
  h.grow (World.grownBy_alloc w o none) (by simp)
theorem Held.drew {n₀ B sz n : Nat} {w : World} {v : Value} {cs : List Value} (h : Held n₀ B w sz n v cs) : Held n₀ B w.drew sz n v cs := ⟨h.row, h.lt⟩
theorem Held.drewN {n₀ B sz n : Nat} {w : World} {v : Value} {cs : List Value} (h : Held n₀ B w sz n v cs) (k : Nat) : Held n₀ B (w.drewN k) sz n v cs := ⟨h.row, h.lt⟩
theorem Held.app {n₀ B sz n e m : Nat} {w w' : World} {v u : Value} {cs xs : List Value} {z : Nat} (h : Held n₀ B w sz n v cs) (ho : w.ownsRow B e z u m xs) (g : w.grownBy w' u.ownBlock) : Held n₀ B w' sz n v cs :=
  h.grow g (fun k hk => .inr (ho.lt k hk).1)
theorem Held.mono {n₀ B B' sz n : Nat} {w : World} {v : Value} {cs : List Value} (h : Held n₀ B w sz n v cs) (hB : B ≤ B') : Held n₀ B' w sz n v cs :=
  ⟨h.row, fun k hk => by have := h.lt k hk; omega⟩

/-- What is owned may be held. -/
theorem Held.of_owns {n₀ B e sz n : Nat} {w : World} {v : Value} {cs : List Value} (h : w.ownsRow B e sz v n cs) (hB : n₀ < B) : Held n₀ w.heap.size w sz n v cs :=
  ⟨(Row.of_owns h).mono (Nat.zero_le _), fun k hk => by have := h.lt k hk; omega⟩

theorem GenS.held {n₀ B b : Nat} {w0 w : World} {v : Value} {l : List Int} (h : GenS n₀ B w0 w b v l) : Held n₀ w.heap.size w 1 l.length v (l.map (.int .i64)) := .of_owns h.row h.hB

theorem Held.slice {n₀ B sz n : Nat} {w : World} {v : Value} {cs : List Value} (h : Held n₀ B w sz n v cs) : ∃ a c, v = .slice a n c := by
  rcases h.row.2 with ⟨rfl, rfl⟩ | ⟨b, off, cap, rfl, _⟩
  · exact ⟨_, _, rfl⟩
  · exact ⟨_, _, rfl⟩
end Go.Bw
