/-
  Walks cut into pieces: what a statement makes of a relation on frames and worlds. No condition.
-/
import Derived.Test.YtbidnbcclibigaaDoorBwLib
import Derived.Deep.Cut
namespace Go.Bw
open Go.RowKit

/-- A part of a text: 0, 1: left and right of a sequence; 2, 3: the ways of an if; 4: inside a block, a loop, a scope. -/
def sel : List Nat → Code → Code
  | 0 :: l, .seq a _ => sel l a
  | 1 :: l, .seq _ b => sel l b
  | 2 :: l, .cond _ a _ => sel l a
  | 3 :: l, .cond _ _ b => sel l b
  | 4 :: l, .block _ c => sel l c
  | 4 :: l, .loop c => sel l c
  | 4 :: l, .scope c => sel l c
  | _, c => c

/-- A frame of n slots. -/
def frame (n : Nat) (f : Nat → Value) : Act := ⟨((List.range n).map f).toArray, []⟩

def AllAt (f : Nat → Value) : List (Nat × Value) → Prop
  | [] => True
  | p :: l => f p.1 = p.2 ∧ AllAt f l

/-- The frame has n slots, and those of the list hold what it says. -/
def Fr (n : Nat) (l : List (Nat × Value)) (a : Act) : Prop := ∃ f, a = frame n f ∧ AllAt f l

theorem Fr.of {n : Nat} {l : List (Nat × Value)} (xs : List Value) (hn : xs.length = n) (h : AllAt (fun i => xs.getD i undef) l) : Fr n l ⟨xs.toArray, []⟩ := by
  refine ⟨_, ?_, h⟩
  unfold frame
  congr 2
  apply List.ext_getElem
  · simp [hn]
  · intro i h1 h2
    simp [List.getD, h1]

theorem AllAt.get {f : Nat → Value} {l : List (Nat × Value)} (h : AllAt f l) {p : Nat × Value} (hp : p ∈ l) : f p.1 = p.2 := by
  induction l with
  | nil => cases hp
  | cons q l ih =>
    rcases List.mem_cons.1 hp with rfl | hp
    · exact h.1
    · exact ih h.2 hp

theorem Fr.eval {n : Nat} {l : List (Nat × Value)} {a : Act} (h : Fr n l a) (i : Nat) (hi : i < n) {v : Value} (hv : (i, v) ∈ l) : a.eval (.tmp i) = v := by
  obtain ⟨f, rfl, hf⟩ := h
  have := hf.get hv
  simp only at this
  simp only [Act.eval, frame]
  rw [Array.getD_eq_getD_getElem?]
  simp [hi, this]

theorem AllAt.sub {f : Nat → Value} {l l' : List (Nat × Value)} (h : AllAt f l) (hs : ∀ p ∈ l', p ∈ l) : AllAt f l' := by
  induction l' with
  | nil => trivial
  | cons q l' ih => exact ⟨h.get (hs q (by simp)), ih fun p hp => hs p (by simp [hp])⟩

theorem Fr.sub {n : Nat} {l l' : List (Nat × Value)} {a : Act} (h : Fr n l a) (hs : ∀ p ∈ l', p ∈ l) : Fr n l' a := by
  obtain ⟨f, rfl, hf⟩ := h
  exact ⟨f, rfl, hf.sub hs⟩

theorem Fr.tail {n : Nat} {p : Nat × Value} {l : List (Nat × Value)} {a : Act} (h : Fr n (p :: l) a) : Fr n l a := h.sub (by simp +contextual)

/-- The statement s takes R to S. -/
def Tri (P : Program) (R : Act → World → Prop) (s : Code) (S : Act → World → Prop) : Prop :=
  ∀ (Q : Exit → Act → World → Prop) (J K : Act → World → Prop), (∀ a w, S a w → J a w) → (∀ a w, Met J a w → K a w) → ∀ a w, R a w → s.wp P (Exit.then K Q) a w

section
variable {P : Program} {R S T X : Act → World → Prop} {s c : Code} {Q : Exit → Act → World → Prop} {K : Act → World → Prop} {a : Act} {w : World}

theorem Tri.go (h : Tri P R s S) (hR : R a w) (rest : ∀ a w, S a w → K a w) : s.wp P (Exit.then K Q) a w := h Q S K (fun _ _ h => h) rest a w hR

theorem wp_tri (h : Tri P R s S) (hR : R a w) (rest : ∀ a w, S a w → c.wp P Q a w) : (Code.seq s c).wp P Q a w := wp_seq (h.go hR rest)

theorem then_then {e : Exit} (h : Exit.then K (Exit.then K Q) e a w) : Exit.then K Q e a w := by cases e <;> exact h

theorem Tri.seq (h : Tri P R s S) (k : Tri P S c T) : Tri P R (.seq s c) T := by
  intro Q J K hJ hK a w hR
  refine wp_seq (wp_mono (h.go (Q := Exit.then K Q) (K := c.wp P (Exit.then K Q)) hR fun a w hS => k.go hS fun a w hT => hK a w (hJ a w hT)) ?_)
  intro e a w q
  exact q

theorem Tri.skip (h : ∀ a w, R a w → S a w) : Tri P R .skip S := fun _ _ _ hJ hK a w hR => wp_skip (hK a w (hJ a w (h a w hR)))

theorem Tri.mono {R' S' : Act → World → Prop} (h : Tri P R s S) (h1 : ∀ a w, R' a w → R a w) (h2 : ∀ a w, S a w → S' a w) : Tri P R' s S' :=
  fun Q J K hJ hK a w hR => h Q J K (fun a w q => hJ a w (h2 a w q)) hK a w (h1 a w hR)

theorem Tri.cond {o : Operand} {x y : Code} (R1 R2 : Act → World → Prop) (h : ∀ a w, R a w → (a.eval o = .bool true ∧ R1 a w) ∨ (a.eval o = .bool false ∧ R2 a w))
    (hx : Tri P R1 x S) (hy : Tri P R2 y S) : Tri P R (.cond o x y) S := by
  intro Q J K hJ hK a w hR
  rcases h a w hR with ⟨he, h1⟩ | ⟨he, h1⟩
  · exact wp_cond_true he (hx Q J K hJ hK a w h1)
  · exact wp_cond_false he (hy Q J K hJ hK a w h1)

/-- One round of a loop in block id, at the number n. -/
def Rnd (P : Program) (I : Nat → Act → World → Prop) (id : Nat) (c : Code) (X : Act → World → Prop) : Prop :=
  ∀ (n : Nat) (Q : Exit → Act → World → Prop) (J J' K : Act → World → Prop), (∀ m a w, m < n → I m a w → J a w) → (∀ a w, Met J a w → K a w) →
    (∀ a w, X a w → J' a w) → (∀ a w, Met J' a w → Q (.exit id) a w) → ∀ a w, I n a w → c.wp P (Exit.then K Q) a w

theorem Tri.loop {id : Nat} (I : Nat → Act → World → Prop) (h0 : ∀ a w, R a w → ∃ n, I n a w) (h : Rnd P I id c X) : Tri P R (.block id (.loop c)) X := by
  intro Q J K hJ hK a w hR
  obtain ⟨n, hI⟩ := h0 a w hR
  refine wp_block (wp_loop_ghost I n hI fun n a w hI => ?_)
  refine h n _ (fun a w => ∃ m, m < n ∧ I m a w) X _ (fun m a w hm hI => ⟨m, hm, hI⟩) (fun a w q => q) (fun _ _ q => q) ?_ a w hI
  intro a w q
  show Exit.inBlock id _ (.exit id) a w
  simp only [Exit.inBlock, if_true]
  exact hK a w (hJ a w q)
end
end Go.Bw
