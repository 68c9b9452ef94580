/-
  A region that draws its order and holds calls, met by a schedule: operations that read old cells or only compute are taken as soon as they may come up; of the others one at a time is left. No condition on a program.
-/
import Derived.Test.YtbidnbcclibigaaDoorBwReg
namespace Go.Bw
open Go.RowKit
section
variable {P : Program} {ops : Array Oper} {Q : Exit → Act → World → Prop} {S : World → Prop} {md : Region.Mode}

/-- The operation by itself. -/
def bare (o : Oper) : Oper := { o with after := #[], guard := none }

theorem wp_then {o : Oper} {a : Act} {w : World} {K K' : Act → World → Prop} (h : o.wp P a w K (Exit.then K' Q)) : o.wp P a w K Q := by
  unfold Oper.wp at *
  generalize (execOp a.eval o).run P w = r at *
  cases r with
  | ok n w' =>
    cases n <;> simp only [Oper.upon] at h ⊢ <;>
      first
        | exact h
        | exact Calls.mono h (fun e w'' he => by cases e <;> exact he)
  | halt x w' => cases x <;> simp only [Oper.upon] at h ⊢ <;> exact h

def wpFlat (P : Program) (ops : Array Oper) (Q : Exit → Act → World → Prop) (S : World → Prop) : List (Bool × Oper) → Act → World → Prop
  | [], a, w => Q .normal a w
  | (true, o) :: r, a, w => ∃ v, YieldsIf P ops S o v a ∧ wpFlat P ops Q S r (a.put o.dst v) w
  | (false, o) :: r, a, w => if Region.wanted o (yielded ops a.tmps) then o.wp P a w (fun a w => S w ∧ wpFlat P ops Q S r a w) Q ∨ (o.asks P a w ∧ LetsOut Q) else S w ∧ wpFlat P ops Q S r (a.put o.dst undef) w

def flatB (md : Region.Mode) (ops : Array Oper) : List (Bool × Nat) → Array Bool → Bool
  | [], listed => (Region.ready md ops listed).isEmpty
  | (true, i) :: r, listed => Region.free md ops listed i && (Region.ready md ops listed).contains i && flatB md ops r (listed.setIfInBounds i true)
  | (false, i) :: r, listed => decide (Region.ready md ops listed = [i]) && flatB md ops r (listed.setIfInBounds i true)

def pickFlat (l : List Oper) (is : List (Bool × Nat)) : List (Bool × Oper) := is.filterMap fun p => (l[p.2]?).map fun o => (p.1, o)

theorem flat_H {l : List Oper} (hs : Region.noSelect l.toArray = true) (hQ : ∀ c a d v w, Q (.panic c) (Act.put a d v) w → Q (.panic c) a w) :
    ∀ (is : List (Bool × Nat)) (listed : Array Bool) (a : Act) (w : World), flatB md l.toArray is listed = true → (∀ p ∈ is, p.2 < l.length) → S w →
      wpFlat P l.toArray Q S (pickFlat l is) a w → wpAnyH P md l.toArray Q S is.length listed a w
  | [], listed, a, w, hB, _, _, h => ⟨by simpa [flatB] using hB, h⟩
  | (true, i) :: is, listed, a, w, hB, hl, hS, h => by
    simp only [flatB, Bool.and_eq_true] at hB
    obtain ⟨⟨hf, hr⟩, hB'⟩ := hB
    have hi : i < l.length := hl (true, i) (by simp)
    have h0 : l.toArray[i]? = some l[i] := by simp [hi]
    have hp : pickFlat l ((true, i) :: is) = (true, l[i]) :: pickFlat l is := by simp [pickFlat, List.getElem?_eq_getElem hi]
    rw [hp] at h
    obtain ⟨v, hy, hk⟩ := h
    exact wpAnyH_take h0 hs hf hr (fun c a w => hQ c a _ _ w) hy hS (flat_H hs hQ is _ _ w hB' (fun p hp => hl p (by simp [hp])) hS hk)
  | (false, i) :: is, listed, a, w, hB, hl, hS, h => by
    simp only [flatB, Bool.and_eq_true, decide_eq_true_eq] at hB
    obtain ⟨hr, hB'⟩ := hB
    have hi : i < l.length := hl (false, i) (by simp)
    have hp : pickFlat l ((false, i) :: is) = (false, l[i]) :: pickFlat l is := by simp [pickFlat, List.getElem?_eq_getElem hi]
    rw [hp] at h
    refine wpAnyH_all hr (by simp) fun j hj => ?_
    obtain rfl : j = i := by simpa using hj
    have hw : wpOp P l.toArray Q j (fun a w => S w ∧ wpFlat P l.toArray Q S (pickFlat l is) a w) a w := by
      unfold wpOp
      simp only [List.getElem?_toArray, List.getElem?_eq_getElem hi]
      exact h
    exact wpOp_mono (fun a' w' h' => ⟨h'.1, flat_H hs hQ is _ a' w' hB' (fun p hp => hl p (by simp [hp])) h'.1 h'.2⟩) hw

theorem wp_region_flat {id : Nat} {a : Act} {w : World} {l : List Oper} (is : List (Bool × Nat)) (hm : P.follows .mixedOrders = true)
    (hB : (Region.noSelect l.toArray && flatB .any l.toArray is (Array.replicate l.length false) && is.all (fun p => decide (p.2 < l.length)) && decide (is.length = l.length)) = true)
    (hQ : ∀ c a d v w, Q (.panic c) (Act.put a d v) w → Q (.panic c) a w) (hS : S w.drew)
    (h : wpFlat P l.toArray Q S (pickFlat l is) a w.drew) : (Code.region id l.toArray true).wp P Q a w := by
  simp only [Bool.and_eq_true, decide_eq_true_eq, List.all_eq_true] at hB
  obtain ⟨⟨⟨hs, hc⟩, hlt⟩, hlen⟩ := hB
  refine wp_region_held hm (S := S) ?_
  have := flat_H hs hQ is (Array.replicate l.length false) a w.drew hc (fun p hp => hlt p hp) hS h
  rw [hlen] at this
  simpa using this

open Classical in
/-- The worlds that keep what there was, but for one row. -/
noncomputable def wof (w₁ : World) (row : Option Nat) (i : World) : World := if w₁.grownBy i row then i else w₁
theorem wof_of {w₁ i : World} {row : Option Nat} (h : w₁.grownBy i row) : wof w₁ row i = i := by unfold wof; rw [if_pos h]
theorem wof_grown (w₁ : World) (row : Option Nat) (i : World) : w₁.grownBy (wof w₁ row i) row := by
  unfold wof
  split
  · assumption
  · exact grown_refl _ _
theorem wof_at {w₁ : World} {row : Option Nat} {a : Addr} {v : Value} (h : w₁.cell? a = some v) (hne : row ≠ some a.block) (i : World) : (wof w₁ row i).cell? a = some v := by
  have hlt := World.block_lt_of_cell? w₁ a h
  exact (World.cell?_of_block ((wof_grown w₁ row i).block a.block hlt (fun e => hne e.symm))).trans h

/-- The same value in every world that keeps what there was, and nothing else. -/
def Oper.heldAt (P : Program) (w₁ : World) (row : Option Nat) (o : Oper) (a : Act) (next : Act → Prop) : Prop :=
  ∃ v, (∀ i, (execOp a.eval o).run P (wof w₁ row i) = .ok (.value v) (wof w₁ row i)) ∧ next (a.put o.dst v)
attribute [go_sem] Oper.heldAt

/-- The schedule, met at a relation that hides what is to come. -/
theorem flat_hide {w₁ : World} {row : Option Nat} {l : List (Bool × Oper)} {a : Act} {w : World}
    (h : ∀ W : List (Bool × Oper) → Act → World → Prop,
      Hid (∀ o r a w, (∀ K : Act → Prop, (∀ a, W r a w → K a) → if Region.wanted o (yielded ops a.tmps) then Oper.heldAt P w₁ row o a K else K (a.put o.dst undef)) → W ((true, o) :: r) a w) →
      Hid (∀ o r a w, Region.wanted o (yielded ops a.tmps) = true → (∀ K : Act → World → Prop, Hid (∀ a w, w₁.grownBy w row → W r a w → K a w) → wpList P [bare o].toArray (Exit.then K Q) [bare o] a w) → W ((false, o) :: r) a w) →
      Hid (∀ o r a w, w₁.grownBy w row → Region.wanted o (yielded ops a.tmps) = false → W r (a.put o.dst undef) w → W ((false, o) :: r) a w) →
      Hid (∀ a w, Q .normal a w → W [] a w) → W l a w) : wpFlat P ops Q (fun w => w₁.grownBy w row) l a w := by
  refine h (wpFlat P ops Q (fun w => w₁.grownBy w row)) (Lib.hid fun o r a w hk => ?_) (Lib.hid fun o r a w hw hk => ?_) (Lib.hid fun o r a w hS hw hk => ?_) (Lib.hid fun a w hk => hk)
  · have := hk _ (fun _ h => h)
    unfold wpFlat
    split at this
    · rename_i hw
      obtain ⟨v, hv, hn⟩ := this
      exact ⟨v, .inl ⟨hw, fun w' hw' => by have := hv w'; rwa [wof_of hw'] at this⟩, hn⟩
    · rename_i hw
      exact ⟨undef, .inr ⟨by simpa using hw, rfl⟩, this⟩
  · have := hk (fun a w => w₁.grownBy w row ∧ wpFlat P ops Q (fun w => w₁.grownBy w row) r a w) (Lib.hid fun _ _ h1 h2 => ⟨h1, h2⟩)
    unfold wpList at this
    rw [if_pos (show Region.wanted (bare o) (yielded [bare o].toArray a.tmps) = true from rfl)] at this
    unfold wpFlat
    rw [if_pos hw]
    rcases this with h1 | ⟨h1, h2⟩
    · exact .inl (wp_then h1)
    · exact .inr ⟨h1, h2⟩
  · unfold wpFlat
    rw [if_neg (by simp [hw])]
    exact ⟨hS, hk⟩
/-- The region, met so. -/
theorem wp_region_mix {id : Nat} {a : Act} {w : World} {l : List Oper} (row : Option Nat) (is : List (Bool × Nat)) (hm : P.follows .mixedOrders = true)
    (hB : (Region.noSelect l.toArray && flatB .any l.toArray is (Array.replicate l.length false) && is.all (fun p => decide (p.2 < l.length)) && decide (is.length = l.length)) = true)
    (hQ : ∀ c a d v w, Q (.panic c) (Act.put a d v) w → Q (.panic c) a w)
    (h : wpFlat P l.toArray Q (fun w' => w.drew.grownBy w' row) (pickFlat l is) a w.drew) : (Code.region id l.toArray true).wp P Q a w :=
  wp_region_flat is hm hB hQ (grown_refl _ _) h
end
end Go.Bw
