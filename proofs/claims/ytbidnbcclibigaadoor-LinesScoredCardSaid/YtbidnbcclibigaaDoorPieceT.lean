/-
  Walks cut into pieces, with returns and exits. No condition.
-/
import Derived.Test.YtbidnbcclibigaaDoorPiece
namespace Go.Bw
open Go.RowKit

abbrev Rel : Type := Act → World → Prop
def No : Rel := fun _ _ => False

/-- Where a statement may come out: at its end (S), by leaving block id (X), by a return (T). -/
def Post (S X : Rel) (id : Nat) (T : Rel) : Exit → Act → World → Prop
  | .normal, a, w => S a w
  | .exit i, a, w => i = id ∧ X a w
  | .ret, a, w => T a w
  | _, _, _ => False

def T3 (P : Program) (R : Rel) (s : Code) (S X : Rel) (id : Nat) (T : Rel) : Prop := ∀ a w, R a w → s.wp P (Post S X id T) a w

section
variable {P : Program} {R R' S S' X X' T T' : Rel} {s c : Code} {id id' : Nat}

theorem T3.leaf (h : ∀ (Q : Exit → Act → World → Prop) (JS JX JT K : Rel), (∀ a w, S a w → JS a w) → (∀ a w, Met JS a w → K a w) → (∀ a w, X a w → JX a w) → (∀ a w, Met JX a w → Q (.exit id) a w) →
    (∀ a w, T a w → JT a w) → (∀ a w, Met JT a w → Q .ret a w) → ∀ a w, R a w → s.wp P (Exit.then K Q) a w) : T3 P R s S X id T := by
  intro a w hR
  refine wp_mono (h (Post S X id T) S X T S (fun _ _ q => q) (fun _ _ q => q) (fun _ _ q => q) (fun _ _ q => ⟨rfl, q⟩) (fun _ _ q => q) (fun _ _ q => q) a w hR) ?_
  intro e a w q
  cases e <;> exact q

theorem T3.of_tri (h : Tri P R s S) : T3 P R s S X id T := by
  intro a w hR
  refine wp_mono (h (Post S X id T) S S (fun _ _ q => q) (fun _ _ q => q) a w hR) ?_
  intro e a w q
  cases e <;> exact q

theorem T3.mono (h : T3 P R s S X id T) (hR : ∀ a w, R' a w → R a w) (hS : ∀ a w, S a w → S' a w) (hT : ∀ a w, T a w → T' a w) (hX : ∀ a w, X a w → X' a w) : T3 P R' s S' X' id T' := by
  intro a w q
  refine wp_mono (h a w (hR a w q)) ?_
  intro e a w q
  cases e with
  | normal => exact hS a w q
  | exit i => exact ⟨q.1, hX a w q.2⟩
  | ret => exact hT a w q
  | goto l => exact q
  | panic ch => exact q
  | outgrown => exact q

theorem T3.seq (h : T3 P R s S X id T) (k : T3 P S c S' X id T) : T3 P R (.seq s c) S' X id T := by
  intro a w hR
  refine wp_seq (wp_mono (h a w hR) ?_)
  intro e a w q
  cases e with
  | normal => exact k a w q
  | exit i => exact q
  | ret => exact q
  | goto l => exact q
  | panic ch => exact q
  | outgrown => exact q

theorem T3.skip (h : ∀ a w, R a w → S a w) : T3 P R .skip S X id T := fun a w q => wp_skip (h a w q)
theorem T3.ret (h : ∀ a w, R a w → T a w) : T3 P R .ret S X id T := fun a w q => wp_ret (h a w q)
theorem T3.exit (h : ∀ a w, R a w → X a w) : T3 P R (.exit id) S X id T := fun a w q => wp_exit ⟨rfl, h a w q⟩

theorem T3.cond {o : Operand} {x y : Code} (R1 R2 : Rel) (h : ∀ a w, R a w → (a.eval o = .bool true ∧ R1 a w) ∨ (a.eval o = .bool false ∧ R2 a w))
    (hx : T3 P R1 x S X id T) (hy : T3 P R2 y S X id T) : T3 P R (.cond o x y) S X id T := by
  intro a w hR
  rcases h a w hR with ⟨he, h1⟩ | ⟨he, h1⟩
  · exact wp_cond_true he (hx a w h1)
  · exact wp_cond_false he (hy a w h1)

/-- A block that nobody leaves but by its end. -/
theorem T3.block (hid : id ≠ id') (h : T3 P R c S X id T) : T3 P R (.block id' c) S X id T := by
  intro a w hR
  refine wp_block (wp_mono (h a w hR) ?_)
  intro e a w q
  cases e with
  | normal => exact q
  | exit i =>
    obtain ⟨rfl, q⟩ := q
    show Exit.inBlock id' _ (.exit i) a w
    simp only [Exit.inBlock, hid, if_false]
    exact ⟨rfl, q⟩
  | ret => exact q
  | goto l => exact q
  | panic ch => exact q
  | outgrown => exact q

theorem T3.loop (I : Nat → Rel) (h0 : ∀ a w, R a w → ∃ n, I n a w) (h : ∀ n, T3 P (I n) c (fun a w => ∃ m, m < n ∧ I m a w) S id T) : T3 P R (.block id (.loop c)) S X id' T := by
  intro a w hR
  obtain ⟨n, hI⟩ := h0 a w hR
  refine wp_block (wp_loop_ghost I n hI fun n a w hI => wp_mono (h n a w hI) ?_)
  intro e a w q
  cases e with
  | normal => exact q
  | exit i =>
    obtain ⟨rfl, q⟩ := q
    show Exit.inBlock i _ (.exit i) a w
    simp only [Exit.inBlock, if_true]
    exact q
  | ret => exact q
  | goto l => exact q
  | panic ch => exact q
  | outgrown => exact q

/-- Nobody leaves block id. -/
theorem T3.noX (h : T3 P R s S No id T) : T3 P R s S X id' T := by
  intro a w hR
  refine wp_mono (h a w hR) ?_
  intro e a w q
  cases e with
  | normal => exact q
  | exit i => exact q.2.elim
  | ret => exact q
  | goto l => exact q
  | panic ch => exact q
  | outgrown => exact q

theorem T3.pure {p : Prop} (h : p → T3 P R s S X id T) : T3 P (fun a w => p ∧ R a w) s S X id T := fun a w q => h q.1 a w q.2
theorem T3.ex {α : Type} {R : α → Rel} (h : ∀ x, T3 P (R x) s S X id T) : T3 P (fun a w => ∃ x, R x a w) s S X id T := fun a w ⟨x, q⟩ => h x a w q

/-- The whole text of a function: it ends by a return. -/
theorem T3.done {Q : Exit → Act → World → Prop} {a : Act} {w : World} (h : T3 P R s No No id T) (hR : R a w) (hT : ∀ a w, T a w → Q .ret a w) : s.wp P Q a w := by
  refine wp_mono (h a w hR) ?_
  intro e a w q
  cases e with
  | normal => exact q.elim
  | exit i => exact q.2.elim
  | ret => exact hT a w q
  | goto l => exact q.elim
  | panic ch => exact q.elim
  | outgrown => exact q.elim

/-- An if on a slot that holds a known Boolean. -/
theorem T3.iff {n i : Nat} {x y : Code} {l : List (Nat × Value)} {M : Bool → World → Prop} (hi : i < n) (hx : T3 P (fun a w => Fr n ((i, .bool true) :: l) a ∧ M true w) x S X id T)
    (hy : T3 P (fun a w => Fr n ((i, .bool false) :: l) a ∧ M false w) y S X id T) : T3 P (fun a w => ∃ q, Fr n ((i, .bool q) :: l) a ∧ M q w) (.cond (.tmp i) x y) S X id T := by
  refine T3.cond _ _ ?_ hx hy
  rintro a w ⟨q, hF, hM⟩
  have he := hF.eval i hi (v := .bool q) (by simp)
  cases q
  · exact .inr ⟨he, hF, hM⟩
  · exact .inl ⟨he, hF, hM⟩

/-- A statement that finds a Boolean, and the if on it. -/
theorem T3.test {n i : Nat} {x y : Code} {l : List (Nat × Value)} {C : Bool → Prop} {W : World → Prop} (hi : i < n)
    (h : T3 P R s (fun a w => ∃ q, Fr n ((i, .bool q) :: l) a ∧ (C q ∧ W w)) X id T)
    (hx : T3 P (fun a w => Fr n ((i, .bool true) :: l) a ∧ C true ∧ W w) x S X id T)
    (hy : T3 P (fun a w => C false ∧ W w ∧ Fr n l a) y S X id T) : T3 P R (.seq s (.cond (.tmp i) x y)) S X id T :=
  h.seq (T3.iff (M := fun q w => C q ∧ W w) hi hx (hy.mono (fun _ _ q => ⟨q.2.1, q.2.2, q.1.tail⟩) (fun _ _ q => q) (fun _ _ q => q) (fun _ _ q => q)))

theorem T3.pre (h : T3 P R s S X id T) (hR : ∀ a w, R' a w → R a w) : T3 P R' s S X id T := h.mono hR (fun _ _ q => q) (fun _ _ q => q) (fun _ _ q => q)
theorem T3.post (h : T3 P R s S X id T) (hS : ∀ a w, S a w → S' a w) : T3 P R s S' X id T := h.mono (fun _ _ q => q) hS (fun _ _ q => q) (fun _ _ q => q)
theorem T3.noS (h : T3 P R s No X id T) : T3 P R s S X id T := h.post (fun _ _ q => q.elim)
end
end Go.Bw
