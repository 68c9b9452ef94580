/-
  Lemmas on what a law owns while it draws. No condition on a program.
-/
import Derived.Test.YtbidnbcclibigaaDoorStream
namespace Go.Bw
open Go.RowKit

theorem owns_str {w w' : World} {B base e sz n : Nat} {v : Value} {xs : List Value} (h : w.ownsRow base e sz v n xs) (g : w.grownBy w' (some B)) (hB : B < base) : w'.ownsRow base e sz v n xs :=
  h.kept g (.inr (fun e => by have := (h.lt B e).1; omega))

theorem below_str {n₀ B : Nat} {w0 w w' : World} (h : Below n₀ w0 w) (g : w.grownBy w' (some B)) (hB : n₀ ≤ B) (hs : n₀ ≤ w.heap.size) : Below n₀ w0 w' :=
  h.grown g hs (fun k hk => by cases hk; exact hB)

theorem Str.kept {B b : Nat} {w w' : World} {row : Option Nat} (h : Str B w b) (g : w.grownBy w' row) (hr : ∀ k, row = some k → B < k) : Str B w' b := by
  have hlt := h.lt
  have hB : w'.heap[B]? = w.heap[B]? := g.block B hlt (fun e => by have := hr B e.symm; omega)
  obtain ⟨v, n, zs, t, h0, h1, h2, h3, h4, h5⟩ := h
  exact ⟨v, n, zs, t, (World.cell?_of_block (a := ⟨B, 0, none⟩) hB).trans h0, (World.cell?_of_block (a := ⟨B, 1, none⟩) hB).trans h1, (World.frozen?_of_block (a := ⟨B, 1, none⟩) hB).trans h2, h3, h4,
    h5.swap (fun k hk => g.block k (Nat.lt_trans hk hlt) (fun e => by have := hr k e.symm; omega)) g.size⟩

theorem Str.alloc {B b : Nat} {w : World} (h : Str B w b) (o : Obj) : Str B (w.alloc o) b := h.kept (World.grownBy_alloc w o none) (by simp)
theorem Str.drew {B b : Nat} {w : World} (h : Str B w b) : Str B w.drew b := h

theorem Str.app {B b base e sz n : Nat} {w w' : World} {v : Value} {xs : List Value} (h : Str B w b) (ho : w.ownsRow base e sz v n xs) (g : w.grownBy w' v.ownBlock) (hB : B < base) : Str B w' b :=
  h.kept g (fun k hk => by have := (ho.lt k hk).1; omega)

/-- A store into an owned row of ints. -/
theorem owns_set {w : World} {base e n g cap : Nat} {xs : List Int} (h : w.ownsRow base e 1 (.slice (some ⟨g, 0, none⟩) n cap) n (xs.map (.int .i64))) (i : Nat) (hi : i < n) (u : Int) :
    (w.setCell ⟨g, i, none⟩ (.int .i64 u)).ownsRow base e 1 (.slice (some ⟨g, 0, none⟩) n cap) n ((xs.set i u).map (.int .i64)) := by
  obtain ⟨h1, h2⟩ := h
  refine ⟨by simpa using h1, ?_⟩
  rcases h2 with ⟨h2, _⟩ | ⟨g', cap', cur, hv, hb, hg, hn, hc, hs, ht⟩
  · cases h2
  · simp only [Value.slice.injEq, Option.some.injEq, Addr.mk.injEq] at hv
    obtain ⟨⟨rfl, _⟩, _, rfl⟩ := hv
    refine .inr ⟨g, cap, cur.setIfInBounds i (.int .i64 u), rfl, hb, ?_, hn, hc, by simpa using hs, ?_⟩
    · have hlt := (Array.getElem?_eq_some_iff.1 hg).1
      simp only [World.setCell, Array.getElem?_modify, if_true, hg, Option.map_some]
      rfl
    · rw [List.map_set, ← ht, Array.toList_setIfInBounds]
      exact List.take_set.symm ▸ rfl
end Go.Bw
