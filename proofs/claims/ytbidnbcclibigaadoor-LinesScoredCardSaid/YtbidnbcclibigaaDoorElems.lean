/-
  Rows of things of several cells; what a call of the stream leaves. No condition on a program.
-/
import Derived.Test.YtbidnbcclibigaaDoorGenL
namespace Go.Bw
open Go.RowKit

/-- The cells of a list of things. -/
def cellsOf {α : Type} (enc : α → List Value) (l : List α) : List Value := l.flatMap enc

theorem cellsOf_nil {α : Type} (enc : α → List Value) : cellsOf enc [] = [] := rfl
theorem cellsOf_cons {α : Type} (enc : α → List Value) (x : α) (l : List α) : cellsOf enc (x :: l) = enc x ++ cellsOf enc l := rfl
theorem cellsOf_snoc {α : Type} (enc : α → List Value) (l : List α) (x : α) : cellsOf enc (l ++ [x]) = cellsOf enc l ++ enc x := by simp [cellsOf]
theorem cellsOf_append {α : Type} (enc : α → List Value) (l l' : List α) : cellsOf enc (l ++ l') = cellsOf enc l ++ cellsOf enc l' := by simp [cellsOf]

theorem cellsOf_length {α : Type} (enc : α → List Value) (sz : Nat) (h : ∀ x, (enc x).length = sz) (l : List α) : (cellsOf enc l).length = l.length * sz := by
  induction l with
  | nil => simp [cellsOf]
  | cons x l ih => rw [cellsOf_cons, List.length_append, ih, h, List.length_cons, Nat.add_mul]; omega

theorem cellsOf_get {α : Type} (enc : α → List Value) (sz : Nat) (h : ∀ x, (enc x).length = sz) (l : List α) : ∀ (k : Nat) (hk : k < l.length) (j : Nat), j < sz → (cellsOf enc l)[k * sz + j]? = (enc l[k])[j]? := by
  induction l with
  | nil => intro k hk; simp at hk
  | cons x l ih =>
    intro k hk j hj
    rw [cellsOf_cons]
    cases k with
    | zero => rw [List.getElem?_append_left (by rw [h]; omega)]; simp
    | succ k =>
      rw [List.getElem?_append_right (by rw [h, Nat.add_mul]; omega), h]
      have := ih k (by simpa using hk) j hj
      rw [show (k + 1) * sz + j - sz = k * sz + j by rw [Nat.add_mul]; omega]
      simpa using this

/-- Element i of a list, at an Int index (a plain def: the walk does not open it). -/
def geta {α : Type} [Inhabited α] (l : List α) (i : Int) : α := l[i.toNat]?.getD default

theorem geta_eq {α : Type} [Inhabited α] (l : List α) (i : Int) (h0 : 0 ≤ i) (h1 : i < l.length) : geta l i = l[i.toNat]'(by omega) := by
  unfold geta
  rw [List.getElem?_eq_getElem (by omega)]
  rfl

theorem geta_mem {α : Type} [Inhabited α] {l : List α} {i : Int} (h0 : 0 ≤ i) (h1 : i < l.length) : geta l i ∈ l := by
  rw [geta_eq l i h0 h1]; exact List.getElem_mem _

theorem Row.els {α : Type} [Inhabited α] {enc : α → List Value} {sz : Nat} (henc : ∀ x, (enc x).length = sz) (hs : 0 < sz) {w : World} {base n : Nat} {v : Value} {l : List α} (h : Row w base sz v n (cellsOf enc l)) :
    l.length = n ∧ ((v = .slice none 0 0 ∧ n = 0) ∨ ∃ b off cap, v = .slice (some ⟨b, off, none⟩) n cap ∧ base ≤ b ∧ b < w.heap.size ∧ n ≤ cap ∧ cap ≤ 9223372036854775807 ∧
      ∀ i : Int, 0 ≤ i → i < n → ∀ j u, (enc (geta l i))[j]? = some u → w.cell? ⟨b, off + i.toNat * sz + j, none⟩ = some u) := by
  obtain ⟨h1, h2⟩ := h
  have hl : l.length = n := by rw [cellsOf_length enc sz henc] at h1; exact Nat.eq_of_mul_eq_mul_right hs h1
  refine ⟨hl, ?_⟩
  rcases h2 with h2 | ⟨b, off, cap, e, hb, hlt, hn, hc, hcell⟩
  · exact .inl h2
  · refine .inr ⟨b, off, cap, e, hb, hlt, hn, by unfold maxLen at hc; omega, fun i h0 hi j u hu => ?_⟩
    have hj : j < sz := by
      have := (List.getElem?_eq_some_iff.1 hu).1
      rwa [henc] at this
    have := hcell (i.toNat * sz + j) u (by rw [cellsOf_get enc sz henc l i.toNat (by omega) j hj, ← hu, geta_eq l i h0 (by omega)])
    rwa [← Nat.add_assoc] at this

/-- The value of a row is a slice of that many. -/
theorem Row.shape {w : World} {base sz n : Nat} {v : Value} {cs : List Value} (h : Row w base sz v n cs) : ∃ a c, v = .slice a n c := by
  rcases h.2 with ⟨rfl, rfl⟩ | ⟨b, off, cap, rfl, _⟩
  · exact ⟨_, _, rfl⟩
  · exact ⟨_, _, rfl⟩

theorem Row.below_w {w w' : World} {base sz n : Nat} {v : Value} {cs : List Value} (h : Row w base sz v n cs) (g : Below w.heap.size w w') : Row w' base sz v n cs := h.below g

/-- v is a row whose block is another one than n₀. -/
structure Apart (n₀ : Nat) (w : World) (sz n : Nat) (v : Value) (cs : List Value) : Prop where
  row : Row w 0 sz v n cs
  ne : ∀ k, v.ownBlock = some k → k ≠ n₀

theorem Apart.grow {n₀ sz n : Nat} {w w' : World} {v : Value} {cs : List Value} (h : Apart n₀ w sz n v cs) (g : w.grownBy w' (some n₀)) : Apart n₀ w' sz n v cs := by
  refine ⟨?_, h.ne⟩
  obtain ⟨⟨h1, h2⟩, hne⟩ := h
  refine ⟨h1, ?_⟩
  rcases h2 with h2 | ⟨b, off, cap, rfl, hb, hl, hn, hc, hcell⟩
  · exact .inl h2
  · refine .inr ⟨b, off, cap, rfl, hb, Nat.lt_of_lt_of_le hl g.size, hn, hc, fun i u hu => ?_⟩
    rw [World.cell?_of_block (w := w) (g.block b hl (fun e => by have := hne b rfl; simp at e; omega))]
    exact hcell i u hu

theorem Apart.below {n₀ sz n : Nat} {w w' : World} {v : Value} {cs : List Value} (h : Apart n₀ w sz n v cs) (g : Below w.heap.size w w') : Apart n₀ w' sz n v cs := ⟨h.row.below g, h.ne⟩
theorem Apart.alloc {n₀ sz n : Nat} {w : World} {v : Value} {cs : List Value} (h : Apart n₀ w sz n v cs) (o : Obj) : Apart n₀ (w.alloc o) sz n v cs := h.grow (World.grownBy_alloc w o _)
theorem Apart.drewN {n₀ sz n : Nat} {w : World} {v : Value} {cs : List Value} (h : Apart n₀ w sz n v cs) (k : Nat) : Apart n₀ (w.drewN k) sz n v cs := ⟨h.row, h.ne⟩
theorem Apart.of_owns {n₀ B e sz n : Nat} {w : World} {v : Value} {cs : List Value} (h : w.ownsRow B e sz v n cs) (hB : n₀ < B) : Apart n₀ w sz n v cs :=
  ⟨(Row.of_owns h).mono (Nat.zero_le _), fun k hk => by have := h.lt k hk; omega⟩

/-- What a call that draws from the stream n₀ leaves: nothing else that was there has changed. -/
structure Drawn (n₀ : Nat) (w w' : World) (b : Nat) : Prop where
  str : Str n₀ w' b
  gr : w.grownBy w' (some n₀)

theorem Drawn.refl {n₀ b : Nat} {w : World} (h : Str n₀ w b) : Drawn n₀ w w b := ⟨h, grown_refl _ _⟩
theorem Drawn.trans {n₀ b b' : Nat} {w w' w'' : World} (h : Drawn n₀ w w' b) (k : Drawn n₀ w' w'' b') : Drawn n₀ w w'' b' := ⟨k.str, grown_trans h.gr k.gr⟩
theorem Drawn.alloc {n₀ b : Nat} {w w' : World} (h : Drawn n₀ w w' b) (o : Obj) : Drawn n₀ w (w'.alloc o) b := ⟨h.str.alloc o, grown_trans h.gr (World.grownBy_alloc w' o _)⟩
theorem Drawn.mono {n₀ b b' : Nat} {w w' : World} (h : Drawn n₀ w w' b) (hb : b ≤ b') : Drawn n₀ w w' b' := ⟨h.str.mono hb, h.gr⟩
theorem Drawn.drewN {n₀ b : Nat} {w w' : World} (h : Drawn n₀ w w' b) (k : Nat) : Drawn n₀ w (w'.drewN k) b := ⟨h.str, grown_drewN h.gr k⟩
theorem Drawn.below {n₀ b : Nat} {w w' w'' : World} (h : Drawn n₀ w w' b) (g : Below w'.heap.size w' w'') : Drawn n₀ w w'' b := ⟨h.str.below g, grown_trans h.gr (grown_of_below g)⟩
theorem Drawn.app {n₀ b B e sz n : Nat} {w w' w'' : World} {v : Value} {xs : List Value} (h : Drawn n₀ w w' b) (ho : w'.ownsRow B e sz v n xs) (hB : w.heap.size ≤ B) (hn : n₀ < B) (g : w'.grownBy w'' v.ownBlock) : Drawn n₀ w w'' b := by
  refine ⟨h.str.app ho g hn, ⟨g.os.trans h.gr.os, g.tape.trans h.gr.tape, g.output.trans h.gr.output, Nat.le_trans h.gr.size g.size, fun k hk hne => ?_⟩⟩
  rw [g.block k (Nat.lt_of_lt_of_le hk h.gr.size) (fun e => by have := ho.lt k e.symm; omega), h.gr.block k hk hne]

theorem Drawn.size {n₀ b : Nat} {w w' : World} (h : Drawn n₀ w w' b) : w.heap.size ≤ w'.heap.size := h.gr.size
end Go.Bw
