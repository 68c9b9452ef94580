/-
  Contracts and lemmas towards the statement, of several parts; each part says ahead of it what it holds and under which conditions.
-/
import Derived.Test.YtnmdpphddimfbaaMg1
import Derived.Lib.Bytealg
import Derived.Sort.Walk0
/-
  A region that draws its order and holds calls, met by a schedule: operations that read old cells or only compute are taken as soon as they may come up; of the others one at a time is left. No condition on a program.
-/
set_option linter.unusedVariables false
namespace Go.Bw
open Go.RowKit
section
variable {P : Program} {ops : Array Oper} {Q : Exit → Act → World → Prop} {S : World → Prop} {md : Region.Mode}

/-- The operation by itself. -/
def bare (o : Oper) : Oper := { o with after := #[], guard := none }

theorem wp_then {o : Oper} {a : Act} {w : World} {K K' : Act → World → Prop} (h : o.wp P a w K (Exit.then K' Q)) : o.wp P a w K Q := by
  unfold Oper.wp at *
  generalize (execOp a.eval o).run P w = r at *
  cases r with
  | ok n w' =>
    cases n <;> simp only [Oper.upon] at h ⊢ <;>
      first
        | exact h
        | exact Calls.mono h (fun e w'' he => by cases e <;> exact he)
  | halt x w' => cases x <;> simp only [Oper.upon] at h ⊢ <;> exact h

def wpFlat (P : Program) (ops : Array Oper) (Q : Exit → Act → World → Prop) (S : World → Prop) : List (Bool × Oper) → Act → World → Prop
  | [], a, w => Q .normal a w
  | (true, o) :: r, a, w => ∃ v, YieldsIf P ops S o v a ∧ wpFlat P ops Q S r (a.put o.dst v) w
  | (false, o) :: r, a, w => if Region.wanted o (yielded ops a.tmps) then o.wp P a w (fun a w => S w ∧ wpFlat P ops Q S r a w) Q ∨ (o.asks P a w ∧ LetsOut Q) else S w ∧ wpFlat P ops Q S r (a.put o.dst undef) w

def flatB (md : Region.Mode) (ops : Array Oper) : List (Bool × Nat) → Array Bool → Bool
  | [], listed => (Region.ready md ops listed).isEmpty
  | (true, i) :: r, listed => Region.free md ops listed i && (Region.ready md ops listed).contains i && flatB md ops r (listed.setIfInBounds i true)
  | (false, i) :: r, listed => decide (Region.ready md ops listed = [i]) && flatB md ops r (listed.setIfInBounds i true)

def pickFlat (l : List Oper) (is : List (Bool × Nat)) : List (Bool × Oper) := is.filterMap fun p => (l[p.2]?).map fun o => (p.1, o)

theorem flat_H {l : List Oper} (hs : Region.noSelect l.toArray = true) (hQ : ∀ c a d v w, Q (.panic c) (Act.put a d v) w → Q (.panic c) a w) :
    ∀ (is : List (Bool × Nat)) (listed : Array Bool) (a : Act) (w : World), flatB md l.toArray is listed = true → (∀ p ∈ is, p.2 < l.length) → S w →
      wpFlat P l.toArray Q S (pickFlat l is) a w → wpAnyH P md l.toArray Q S is.length listed a w
  | [], listed, a, w, hB, _, _, h => ⟨by simpa [flatB] using hB, h⟩
  | (true, i) :: is, listed, a, w, hB, hl, hS, h => by
    simp only [flatB, Bool.and_eq_true] at hB
    obtain ⟨⟨hf, hr⟩, hB'⟩ := hB
    have hi : i < l.length := hl (true, i) (by simp)
    have h0 : l.toArray[i]? = some l[i] := by simp [hi]
    have hp : pickFlat l ((true, i) :: is) = (true, l[i]) :: pickFlat l is := by simp [pickFlat, List.getElem?_eq_getElem hi]
    rw [hp] at h
    obtain ⟨v, hy, hk⟩ := h
    exact wpAnyH_take h0 hs hf hr (fun c a w => hQ c a _ _ w) hy hS (flat_H hs hQ is _ _ w hB' (fun p hp => hl p (by simp [hp])) hS hk)
  | (false, i) :: is, listed, a, w, hB, hl, hS, h => by
    simp only [flatB, Bool.and_eq_true, decide_eq_true_eq] at hB
    obtain ⟨hr, hB'⟩ := hB
    have hi : i < l.length := hl (false, i) (by simp)
    have hp : pickFlat l ((false, i) :: is) = (false, l[i]) :: pickFlat l is := by simp [pickFlat, List.getElem?_eq_getElem hi]
    rw [hp] at h
    refine wpAnyH_all hr (by simp) fun j hj => ?_
    obtain rfl : j = i := by simpa using hj
    have hw : wpOp P l.toArray Q j (fun a w => S w ∧ wpFlat P l.toArray Q S (pickFlat l is) a w) a w := by
      unfold wpOp
      simp only [List.getElem?_toArray, List.getElem?_eq_getElem hi]
      exact h
    exact wpOp_mono (fun a' w' h' => ⟨h'.1, flat_H hs hQ is _ a' w' hB' (fun p hp => hl p (by simp [hp])) h'.1 h'.2⟩) hw

theorem wp_region_flat {id : Nat} {a : Act} {w : World} {l : List Oper} (is : List (Bool × Nat)) (hm : P.follows .mixedOrders = true)
    (hB : (Region.noSelect l.toArray && flatB .any l.toArray is (Array.replicate l.length false) && is.all (fun p => decide (p.2 < l.length)) && decide (is.length = l.length)) = true)
    (hQ : ∀ c a d v w, Q (.panic c) (Act.put a d v) w → Q (.panic c) a w) (hS : S w.drew)
    (h : wpFlat P l.toArray Q S (pickFlat l is) a w.drew) : (Code.region id l.toArray true).wp P Q a w := by
  simp only [Bool.and_eq_true, decide_eq_true_eq, List.all_eq_true] at hB
  obtain ⟨⟨⟨hs, hc⟩, hlt⟩, hlen⟩ := hB
  refine wp_region_held hm (S := S) ?_
  have := flat_H hs hQ is (Array.replicate l.length false) a w.drew hc (fun p hp => hlt p hp) hS h
  rw [hlen] at this
  simpa using this

open Classical in
/-- The worlds that keep what there was, but for one row. -/
noncomputable def wof (w₁ : World) (row : Option Nat) (i : World) : World := if w₁.grownBy i row then i else w₁
theorem wof_of {w₁ i : World} {row : Option Nat} (h : w₁.grownBy i row) : wof w₁ row i = i := by unfold wof; rw [if_pos h]
theorem wof_grown (w₁ : World) (row : Option Nat) (i : World) : w₁.grownBy (wof w₁ row i) row := by
  unfold wof
  split
  · assumption
  · exact grown_refl _ _
theorem wof_at {w₁ : World} {row : Option Nat} {a : Addr} {v : Value} (h : w₁.cell? a = some v) (hne : row ≠ some a.block) (i : World) : (wof w₁ row i).cell? a = some v := by
  have hlt := World.block_lt_of_cell? w₁ a h
  exact (World.cell?_of_block ((wof_grown w₁ row i).block a.block hlt (fun e => hne e.symm))).trans h

/-- The same value in every world that keeps what there was, and nothing else. -/
def Oper.heldAt (P : Program) (w₁ : World) (row : Option Nat) (o : Oper) (a : Act) (next : Act → Prop) : Prop :=
  ∃ v, (∀ i, (execOp a.eval o).run P (wof w₁ row i) = .ok (.value v) (wof w₁ row i)) ∧ next (a.put o.dst v)
attribute [go_sem] Oper.heldAt

/-- The schedule, met at a relation that hides what is to come. -/
theorem flat_hide {w₁ : World} {row : Option Nat} {l : List (Bool × Oper)} {a : Act} {w : World}
    (h : ∀ W : List (Bool × Oper) → Act → World → Prop,
      Hid (∀ o r a w, (∀ K : Act → Prop, (∀ a, W r a w → K a) → if Region.wanted o (yielded ops a.tmps) then Oper.heldAt P w₁ row o a K else K (a.put o.dst undef)) → W ((true, o) :: r) a w) →
      Hid (∀ o r a w, Region.wanted o (yielded ops a.tmps) = true → (∀ K : Act → World → Prop, Hid (∀ a w, w₁.grownBy w row → W r a w → K a w) → wpList P [bare o].toArray (Exit.then K Q) [bare o] a w) → W ((false, o) :: r) a w) →
      Hid (∀ o r a w, w₁.grownBy w row → Region.wanted o (yielded ops a.tmps) = false → W r (a.put o.dst undef) w → W ((false, o) :: r) a w) →
      Hid (∀ a w, Q .normal a w → W [] a w) → W l a w) : wpFlat P ops Q (fun w => w₁.grownBy w row) l a w := by
  refine h (wpFlat P ops Q (fun w => w₁.grownBy w row)) (Lib.hid fun o r a w hk => ?_) (Lib.hid fun o r a w hw hk => ?_) (Lib.hid fun o r a w hS hw hk => ?_) (Lib.hid fun a w hk => hk)
  · have := hk _ (fun _ h => h)
    unfold wpFlat
    split at this
    · rename_i hw
      obtain ⟨v, hv, hn⟩ := this
      exact ⟨v, .inl ⟨hw, fun w' hw' => by have := hv w'; rwa [wof_of hw'] at this⟩, hn⟩
    · rename_i hw
      exact ⟨undef, .inr ⟨by simpa using hw, rfl⟩, this⟩
  · have := hk (fun a w => w₁.grownBy w row ∧ wpFlat P ops Q (fun w => w₁.grownBy w row) r a w) (Lib.hid fun _ _ h1 h2 => ⟨h1, h2⟩)
    unfold wpList at this
    rw [if_pos (show Region.wanted (bare o) (yielded [bare o].toArray a.tmps) = true from rfl)] at this
    unfold wpFlat
    rw [if_pos hw]
    rcases this with h1 | ⟨h1, h2⟩
    · exact .inl (wp_then h1)
    · exact .inr ⟨h1, h2⟩
  · unfold wpFlat
    rw [if_neg (by simp [hw])]
    exact ⟨hS, hk⟩
/-- The region, met so. -/
theorem wp_region_mix {id : Nat} {a : Act} {w : World} {l : List Oper} (row : Option Nat) (is : List (Bool × Nat)) (hm : P.follows .mixedOrders = true)
    (hB : (Region.noSelect l.toArray && flatB .any l.toArray is (Array.replicate l.length false) && is.all (fun p => decide (p.2 < l.length)) && decide (is.length = l.length)) = true)
    (hQ : ∀ c a d v w, Q (.panic c) (Act.put a d v) w → Q (.panic c) a w)
    (h : wpFlat P l.toArray Q (fun w' => w.drew.grownBy w' row) (pickFlat l is) a w.drew) : (Code.region id l.toArray true).wp P Q a w :=
  wp_region_flat is hm hB hQ (grown_refl _ _) h
end
end Go.Bw
/-
  More on pieces: those that only go on; those that do not return. No condition on a program.
-/
set_option linter.unusedVariables false
namespace Go.Bw
open Go.RowKit
/-- An ending that only goes on. -/
def OnlyN (J : Rel) : Exit → Act → World → Prop
  | .normal, a, w => J a w
  | _, _, _ => False
theorem T3.leafN {P : Program} {R S X T : Rel} {s : Code} {id : Nat} (h : ∀ JS : Rel, (∀ a w, S a w → JS a w) → ∀ a w, R a w → s.wp P (OnlyN JS) a w) : T3 P R s S X id T := by
  intro a w hR
  refine wp_mono (h S (fun _ _ q => q) a w hR) ?_
  intro e a w q
  cases e with
  | normal => exact q
  | _ => exact q.elim
theorem T3.noT {P : Program} {R S X T : Rel} {s : Code} {id : Nat} (h : T3 P R s S X id No) : T3 P R s S X id T :=
  h.mono (fun _ _ q => q) (fun _ _ q => q) (fun _ _ q => q.elim) (fun _ _ q => q)
end Go.Bw
/-
  More on pieces: a world by a plain name, what is known ahead of a return. No condition on a program.
-/
set_option linter.unusedVariables false
namespace Go.Proofs.Ytnmdpphddimfbaa
open Go.RowKit Go.Bw
/-- The world is w0 (a plain name: the walk does not rewrite by it). -/
def IsW (w0 w : World) : Prop := w = w0
theorem t3_seqx {P : Program} {R R' S X T : Rel} {s : Code} {id : Nat} {p : Prop} (h : T3 P R s S X id T) (hR : ∀ a w, R' a w → p ∧ R a w) : T3 P R' s (fun a w => p ∧ S a w) X id T := by
  intro a w q
  obtain ⟨hp, hr⟩ := hR a w q
  refine wp_mono (h a w hr) ?_
  intro e a w q
  cases e <;> first | exact ⟨hp, q⟩ | exact q
end Go.Proofs.Ytnmdpphddimfbaa
/-
  Line-ups: right slots and an order that the stream hands out. Conditions: the bounds that each theorem names.
-/
set_option linter.unusedVariables false
namespace Go.Proofs.Ytnmdpphddimfbaa
open Go.RowKit Go.Bw
theorem el_slL : Elem Try.prog 26 55 (.agg #[.string ByteArray.empty, .slice none 0 0]) 2 40 := ⟨by kernel_rfl, by kernel_rfl, by kernel_rfl, by decide, by decide⟩
/-- Positions that the stream handed out. -/
structure PsO (B M : Nat) (w : World) (v : Value) (ps : List ByteArray) : Prop where
  r : RHd 9 B M w ps.length v (cellsOf encSt ps)
  z : SmAll ps
  n : ps.length ≤ 10
/-- Slots that the stream handed out. -/
structure SlO (B b : Nat) (w0 : World) (v : Value) (S : List SlD) (w : World) : Prop where
  d : Drawn B w0 w b
  hB : B < w0.heap.size
  o : w.ownsRow w0.heap.size 55 2 v S.length (cellsOf encSl S)
  i : ∀ x ∈ S, PsO B w.heap.size w x.pv x.ps
  z : ∀ x ∈ S, Sm x.key
section
variable {B M M' b b' : Nat} {w0 w w' : World} {v v' : Value} {ps : List ByteArray} {S : List SlD}
theorem PsO.str (h : PsO B M w v ps) (g : w.grownBy w' (some B)) : PsO B M w' v ps := ⟨h.r.str g, h.z, h.n⟩
theorem PsO.mono (h : PsO B M w v ps) (hM : M ≤ M') : PsO B M' w v ps := ⟨h.r.mono hM, h.z, h.n⟩
theorem PsO.other {e' : TypeId} {base sz m : Nat} {x : Value} {xs : List Value} (h : PsO B M w v ps) (ho : w.ownsRow base e' sz x m xs) (he : 9 ≠ e') (g : w.grownBy w' x.ownBlock) : PsO B M w' v ps := ⟨h.r.other ho he g, h.z, h.n⟩
theorem PsO.h (h : PsO B M w v ps) : PsH w v ps := ⟨h.r.row, fun s hs => by have : s.size ≤ 100 := h.z s hs; omega, by have := h.n; omega⟩
theorem SlO.drawn (h : SlO B b w0 v S w) (d : Drawn B w w' b') : SlO B b' w0 v S w' := ⟨h.d.trans d, h.hB, owns_drawn h.o d h.hB, fun x hx => ((h.i x hx).str d.gr).mono d.size, h.z⟩
theorem SlO.mono (h : SlO B b w0 v S w) (hb : b ≤ b') : SlO B b' w0 v S w := ⟨h.d.mono hb, h.hB, h.o, h.i, h.z⟩
theorem SlO.alloc (h : SlO B b w0 v S w) (ob : Obj) : SlO B b w0 v S (w.alloc ob) := h.drawn ((Drawn.refl h.d.str).alloc ob)
theorem SlO.app (h : SlO B b w0 v S w) {x : SlD} (hx : PsO B w.heap.size w x.pv x.ps) (hk : Sm x.key) (ho : w'.ownsRow w0.heap.size 55 2 v' (S.length + 1) (cellsOf encSl S ++ [.string x.key, x.pv])) (g : w.grownBy w' v.ownBlock) : SlO B b w0 v' (S ++ [x]) w' :=
  ⟨h.d.app h.o (Nat.le_refl _) h.hB g, h.hB, by rw [cellsOf_snoc, List.length_append]; exact ho,
    fun y hy => by
      rcases List.mem_append.1 hy with hy | hy
      · exact ((h.i y hy).other h.o (by decide) g).mono g.size
      · simp at hy; subst hy; exact (hx.other h.o (by decide) g).mono g.size,
    fun y hy => by
      rcases List.mem_append.1 hy with hy | hy
      · exact h.z y hy
      · simp at hy; subst hy; exact hk⟩
theorem SlO.nil (h : Drawn B w0 w b) (hB : B < w0.heap.size) : SlO B b w0 (.slice none 0 0) [] w := ⟨h, hB, World.ownsRow_nil _ _ _ _, fun x hx => (by cases hx), fun x hx => (by cases hx)⟩
end
/-- A count. -/
structure CntI (k : Int) (n : Nat) : Prop where
  h : (n : Int) = k
/-- So many slots, of few positions each. -/
structure CntS (k : Int) (S : List SlD) : Prop where
  h : (S.length : Int) = k
  q : ∀ x ∈ S, x.ps.length ≤ 4
/-- Slots to choose from. -/
structure CntR (S : List SlD) : Prop where
  h : 1 ≤ S.length ∧ S.length ≤ 4
  q : ∀ x ∈ S, x.ps.length ≤ 4
def slkL : List ByteArray := [⟨#[115, 98]⟩, ⟨#[115, 97]⟩, ⟨#[115, 99]⟩, ⟨#[115, 100]⟩]
theorem slkL_sm : SmAll slkL := by intro s hs; simp [slkL] at hs; rcases hs with rfl | rfl | rfl | rfl <;> decide
theorem owns_firstK {w : World} {base e n g cap k : Nat} {xs : List Value} (h : w.ownsRow base e 1 (.slice (some ⟨g, 0, none⟩) n cap) n xs) (hk : k ≤ n) : w.ownsRow base e 1 (.slice (some ⟨g, 0, none⟩) k cap) k (xs.take k) := by
  refine ⟨by have := h.1; rw [List.length_take]; omega, ?_⟩
  rcases h.2 with ⟨h0, _⟩ | ⟨g', cap', cur, hv, hb, hg, hn, hc, hs, ht⟩
  · cases h0
  · simp only [Value.slice.injEq, Option.some.injEq, Addr.mk.injEq] at hv
    obtain ⟨⟨rfl, _⟩, _, rfl⟩ := hv
    refine .inr ⟨g, cap, cur, rfl, hb, hg, by omega, hc, hs, ?_⟩
    rw [← ht, List.take_take]
    congr 1
    omega
noncomputable def rsM : Code := (Try.f22.body).getD .skip
set_option maxRecDepth 100000 in
theorem fr_rsM (f : Nat → Value) : frame 24 f = ⟨#[f 0, f 1, f 2, f 3, f 4, f 5, f 6, f 7, f 8, f 9, f 10, f 11, f 12, f 13, f 14, f 15, f 16, f 17, f 18, f 19, f 20, f 21, f 22, f 23], []⟩ := by rfl
set_option maxRecDepth 100000 in
set_option maxHeartbeats 1000000 in
theorem rs0 (B b : Nat) (w0 : World) (hb : b ≤ 50000) : T3 Try.prog (fun a w => (Str B w b ∧ IsW w0 w) ∧ Fr 24 [(0, .pointer (some ⟨B, 0, none⟩))] a) (sel [0] rsM) (fun a w => (Str B w b ∧ IsW w0 w) ∧ Fr 24 [(0, .pointer (some ⟨B, 0, none⟩))] a) No 9 No := by
  refine T3.leaf ?_
  rintro Q JS JX JT K hS hK hX hE hT hR a w ⟨hW, ⟨fr, rfl, q0, _⟩⟩
  rw [fr_rsM, show fr 0 = _ from q0]
  clear q0
  conv => arg 2; whnf
  go_wp2_with fail
  refine Met.intro (hS _ _ ?_)
  exact ⟨hW, Fr.of _ rfl ⟨rfl, trivial⟩⟩

set_option maxRecDepth 100000 in
set_option maxHeartbeats 1000000 in
theorem rs1 (B b : Nat) (w0 : World) (hb : b ≤ 50000) : T3 Try.prog (fun a w => (Str B w b ∧ IsW w0 w) ∧ Fr 24 [(0, .pointer (some ⟨B, 0, none⟩))] a) (sel [1, 0] rsM) (fun a w => (Str B w b ∧ IsW w0 w) ∧ Fr 24 [(0, .pointer (some ⟨B, 0, none⟩)), (3, .slice none 0 0)] a) No 9 No := by
  refine T3.leaf ?_
  rintro Q JS JX JT K hS hK hX hE hT hR a w ⟨hW, ⟨fr, rfl, q0, _⟩⟩
  rw [fr_rsM, show fr 0 = _ from q0]
  clear q0
  conv => arg 2; whnf
  go_wp2_with fail
  refine Met.intro (hS _ _ ?_)
  exact ⟨hW, Fr.of _ rfl ⟨rfl, rfl, trivial⟩⟩

set_option maxRecDepth 100000 in
set_option maxHeartbeats 1000000 in
theorem rs2 (B b : Nat) (w0 : World) (hb : b ≤ 50000) : T3 Try.prog (fun a w => (Str B w b ∧ IsW w0 w) ∧ Fr 24 [(0, .pointer (some ⟨B, 0, none⟩)), (3, .slice none 0 0)] a) (sel [1, 1, 0, 0] rsM) (fun a w => ∃ (r : Nat) (v9 : Value), (1 ≤ r ∧ r ≤ 4) ∧ ((0 ≤ (0 : Int) ∧ (0 : Int) ≤ r) ∧ ∃ (v3 : Value) (S : List SlD), (CntS 0 S) ∧ (SlO B (b + 1 + 5 * (0 : Int).toNat) w0 v3 S w ∧ RHd 9 B w.heap.size w r v9 (cellsOf encSt (slkL.take r))) ∧ Fr 24 [(0, .pointer (some ⟨B, 0, none⟩)), (3, v3), (9, v9), (10, .int .i64 r), (11, .int .i64 0)] a)) No 9 No := by
  refine T3.leaf ?_
  rintro Q JS JX JT K hS hK hX hE hT hR a w ⟨⟨hS_, hW⟩, ⟨fr, rfl, q0, q3, _⟩⟩
  obtain rfl : w = w0 := hW
  have hlt := hS_.lt
  have hO := owns_lit w w.heap.size 9 #[.string ⟨#[115, 98]⟩, .string ⟨#[115, 97]⟩, .string ⟨#[115, 99]⟩, .string ⟨#[115, 100]⟩] 4 (by decide) rfl (Nat.le_refl _)
  have HD := Lib.hid ((Drawn.refl hS_).alloc (.cells #[.string ⟨#[115, 98]⟩, .string ⟨#[115, 97]⟩, .string ⟨#[115, 99]⟩, .string ⟨#[115, 100]⟩] 9))
  have HH := Lib.hid hO
  have hS2 := hS_.alloc (.cells #[.string ⟨#[115, 98]⟩, .string ⟨#[115, 97]⟩, .string ⟨#[115, 99]⟩, .string ⟨#[115, 100]⟩] 9)
  clear hO
  rw [fr_rsM, show fr 0 = _ from q0, show fr 3 = _ from q3]
  clear q0 q3
  conv => arg 2; whnf
  go_wp2_with fail
  refine (range_d B b 1 4 _ hS2 (by decide) (by omega)).mono ?_
  rintro e w1 ⟨r0, rfl, ⟨hr1, hr4⟩, hd⟩
  obtain ⟨r, rfl⟩ : ∃ r : Nat, r0 = r := ⟨r0.toNat, by omega⟩
  have hSl : SlO B (b + 1) w (.slice none 0 0) [] w1 := SlO.nil (HD.out.trans hd) hlt
  have hHe := RHd.of_owns (owns_firstK (owns_str HH.out hd.gr hlt) (show r ≤ 4 by omega)) hlt
  have HF := Lib.hid (show SlO B (b + 1 + 5 * (0 : Int).toNat) w (.slice none 0 0) [] w1 ∧ RHd 9 B w1.heap.size w1 r (.slice (some ⟨w.heap.size, 0, none⟩) r 4) (cellsOf encSt (slkL.take r)) from ⟨hSl, by rw [cells_map, List.map_take, ← cells_map]; exact hHe⟩)
  clear hSl hHe hd HD HH hS2
  go_wp2_with fail
  refine Met.intro (hS _ _ ?_)
  exact ⟨r, _, ⟨by omega, by omega⟩, ⟨by omega, by omega⟩, _, [], ⟨by simp, fun x hx => by cases hx⟩, HF.out, Fr.of _ rfl ⟨rfl, rfl, rfl, rfl, rfl, trivial⟩⟩

set_option maxRecDepth 100000 in
set_option maxHeartbeats 1000000 in
theorem rs4 (B b : Nat) (w0 : World) (hb : b ≤ 50000) (r : Nat) (v9 : Value) (hr : 1 ≤ r ∧ r ≤ 4) (k : Int) : T3 Try.prog (fun a w => ∃ (v3 : Value) (S : List SlD), ((0 ≤ k ∧ k < r) ∧ CntS k S) ∧ (SlO B (b + 1 + 5 * (k : Int).toNat) w0 v3 S w ∧ RHd 9 B w.heap.size w r v9 (cellsOf encSt (slkL.take r))) ∧ Fr 24 [(0, .pointer (some ⟨B, 0, none⟩)), (3, v3), (9, v9), (10, .int .i64 r), (11, .int .i64 k)] a) (sel [1, 1, 0, 1, 4, 4, 1, 1, 0, 4, 0] rsM) (fun a w => ∃ (v3 : Value) (S : List SlD), ((0 ≤ k ∧ k < r) ∧ CntS k S) ∧ (SlO B (b + 1 + 5 * (k : Int).toNat) w0 v3 S w ∧ RHd 9 B w.heap.size w r v9 (cellsOf encSt (slkL.take r))) ∧ Fr 24 [(0, .pointer (some ⟨B, 0, none⟩)), (3, v3), (5, .string (geta slkL k)), (9, v9), (10, .int .i64 r), (11, .int .i64 k)] a) No 9 No := by
  refine T3.leaf ?_
  rintro Q JS JX JT K hS hK hX hE hT hR a w ⟨v3, S, hpre, hW, ⟨fr, rfl, q0, q3, q9, q10, q11, _⟩⟩
  have hpp := Lib.hid hpre
  obtain ⟨⟨hk0, hk1⟩, hl⟩ := hpre
  have HW := Lib.hid hW
  obtain ⟨hlen, hcs⟩ := hW.2.row.els encSt_length (by decide)
  have e1 : geta (slkL.take r) k = geta slkL k := by
    unfold geta
    rw [List.getElem?_take_of_lt (by omega)]
  obtain ⟨p3, c3, hv3⟩ := (Row.of_owns hW.1.o).shape
  subst hv3
  rcases hcs with ⟨rfl, h0⟩ | ⟨bz, off, cap, rfl, _, hbz, hnc, hcm, hcell⟩
  · omega
  have t0 := hcell k hk0 (by omega) 0 _ rfl
  rw [Nat.mul_one, Nat.add_zero, e1] at t0
  clear hcell hW hlen e1
  generalize geta slkL k = x at *
  rw [fr_rsM, show fr 0 = _ from q0, show fr 3 = _ from q3, show fr 9 = _ from q9, show fr 10 = _ from q10, show fr 11 = _ from q11]
  clear q0 q3 q9 q10 q11
  conv => arg 2; whnf
  go_wp2_with fail
  refine Met.intro (hS _ _ ?_)
  exact ⟨_, S, hpp.out, HW.out, Fr.of _ rfl ⟨rfl, rfl, rfl, rfl, rfl, rfl, trivial⟩⟩

set_option maxRecDepth 100000 in
set_option maxHeartbeats 1000000 in
theorem rs5 (B b : Nat) (w0 : World) (hb : b ≤ 50000) (r : Nat) (v9 : Value) (hr : 1 ≤ r ∧ r ≤ 4) (k : Int) (v3 : Value) (S : List SlD) : T3 Try.prog (fun a w => ((0 ≤ k ∧ k < r) ∧ CntS k S) ∧ (SlO B (b + 1 + 5 * (k : Int).toNat) w0 v3 S w ∧ RHd 9 B w.heap.size w r v9 (cellsOf encSt (slkL.take r))) ∧ Fr 24 [(0, .pointer (some ⟨B, 0, none⟩)), (3, v3), (5, .string (geta slkL k)), (9, v9), (10, .int .i64 r), (11, .int .i64 k)] a) (sel [1, 1, 0, 1, 4, 4, 1, 1, 0, 4, 1] rsM) (fun a w => ∃ (v3 : Value) (S : List SlD), ((0 ≤ k ∧ k < r) ∧ CntS (k + 1) S) ∧ (SlO B (b + 1 + 5 * ((k + 1) : Int).toNat) w0 v3 S w ∧ RHd 9 B w.heap.size w r v9 (cellsOf encSt (slkL.take r))) ∧ Fr 24 [(0, .pointer (some ⟨B, 0, none⟩)), (3, v3), (9, v9), (10, .int .i64 r), (11, .int .i64 k)] a) No 9 No := by
  refine T3.leaf ?_
  rintro Q JS JX JT K hS hK hX hE hT hR a w ⟨hpre, hW, ⟨fr, rfl, q0, q3, q5, q9, q10, q11, _⟩⟩
  have hpp := Lib.hid hpre
  obtain ⟨⟨hk0, hk1⟩, hl⟩ := hpre
  have hl4 : S.length ≤ 4 := by have := hl.h; omega
  clear hl
  have hE := el_slL
  have hkx := slkL_sm _ (geta_mem (l := slkL) (i := k) hk0 (by simp [slkL]; omega))
  have hW1 := hW.1
  have hW2 := hW.2
  obtain ⟨p9, c9, hv9⟩ := hW2.row.shape
  subst hv9
  obtain ⟨p3, c3, hv3⟩ := (Row.of_owns hW.1.o).shape
  subst hv3
  clear hW
  generalize geta slkL k = x at *
  rw [fr_rsM, show fr 0 = _ from q0, show fr 3 = _ from q3, show fr 5 = _ from q5, show fr 9 = _ from q9, show fr 10 = _ from q10, show fr 11 = _ from q11]
  clear q0 q3 q5 q9 q10 q11
  conv => arg 2; whnf
  go_wp2_with fail
  refine (spots_any B (b + 1 + 5 * k.toNat) w hW1.d.str (by omega)).mono ?_
  rintro e w1 ⟨pv, ps, rfl, hn4, hsm, hop, hd⟩
  have h1 := hW1.drawn hd
  have hH1 := (hW2.str hd.gr).mono hd.size
  have hBw : B < w.heap.size := by have := hW1.hB; have := hW1.d.size; omega
  have hps : PsO B w1.heap.size w1 pv ps := ⟨RHd.of_owns hop hBw, hsm, by omega⟩
  obtain ⟨pp, cc, hpv⟩ := (Row.of_owns hop).shape
  subst hpv
  have hz1 := h1.d.size
  clear hd hop hW1 hW2
  go_wp2_with (at_builtin; refine app_law rfl _ _ _ rfl hE (h1.o.alloc _) rfl [.string x, .slice pp ps.length cc] rfl rfl (cells_new w1 #[_, _] _) (by simp [Value.oneCell']) (by omega) (by simp; omega) ?_; intro v' w2 hown2 hgr2)
  have hps2 := (hps.str (World.grownBy_alloc w1 (.cells #[.string x, .slice pp ps.length cc] 55) (some B))).mono (show w1.heap.size ≤ (w1.alloc (.cells #[.string x, .slice pp ps.length cc] 55)).heap.size by simp)
  have h2 := (h1.alloc _).app (x := ⟨x, .slice pp ps.length cc, ps⟩) hps2 hkx hown2 hgr2
  have hH2 := ((hH1.alloc (.cells #[.string x, .slice pp ps.length cc] 55)).other (h1.alloc _).o (by decide) hgr2).mono (show w1.heap.size ≤ w2.heap.size by have := hgr2.size; simp at this; omega)
  refine Met.intro (hS _ _ ?_)
  exact ⟨_, _, ⟨hpp.out.1, ⟨by have := hpp.out.2.h; simp; omega, fun y hy => by rcases List.mem_append.1 hy with hy | hy; exact hpp.out.2.q y hy; simp at hy; subst hy; exact hn4⟩⟩, ⟨h2.mono (by omega), hH2⟩, Fr.of _ rfl ⟨rfl, rfl, rfl, rfl, rfl, trivial⟩⟩

set_option maxRecDepth 100000 in
set_option maxHeartbeats 1000000 in
theorem rsb (B b : Nat) (w0 : World) (hb : b ≤ 50000) (r : Nat) (v9 : Value) (hr : 1 ≤ r ∧ r ≤ 4) (k : Int) : T3 Try.prog (fun a w => ∃ (v3 : Value) (S : List SlD), ((0 ≤ k ∧ k < r) ∧ CntS k S) ∧ (SlO B (b + 1 + 5 * (k : Int).toNat) w0 v3 S w ∧ RHd 9 B w.heap.size w r v9 (cellsOf encSt (slkL.take r))) ∧ Fr 24 [(0, .pointer (some ⟨B, 0, none⟩)), (3, v3), (9, v9), (10, .int .i64 r), (11, .int .i64 k)] a) (sel [1, 1, 0, 1, 4, 4, 1, 1, 0] rsM) (fun a w => ∃ (v3 : Value) (S : List SlD), ((0 ≤ k ∧ k < r) ∧ CntS (k + 1) S) ∧ (SlO B (b + 1 + 5 * ((k + 1) : Int).toNat) w0 v3 S w ∧ RHd 9 B w.heap.size w r v9 (cellsOf encSt (slkL.take r))) ∧ Fr 24 [(0, .pointer (some ⟨B, 0, none⟩)), (3, v3), (9, v9), (10, .int .i64 r), (11, .int .i64 k)] a) No 9 No := T3.block (id' := 1) (c := (sel [1, 1, 0, 1, 4, 4, 1, 1, 0, 4] rsM)) (by decide) (T3.seq (s := (sel [1, 1, 0, 1, 4, 4, 1, 1, 0, 4, 0] rsM)) (c := (sel [1, 1, 0, 1, 4, 4, 1, 1, 0, 4, 1] rsM)) (rs4 B b w0 hb r v9 hr k) (T3.ex fun v3 => T3.ex fun S => rs5 B b w0 hb r v9 hr k v3 S))

def rsAI (B b : Nat) (w0 : World) (hb : b ≤ 50000) (r : Nat) (v9 : Value) (hr : 1 ≤ r ∧ r ≤ 4) (k : Int) (a : Act) (w : World) : Prop := (0 ≤ k ∧ k ≤ r) ∧ ∃ (v3 : Value) (S : List SlD), (CntS k S) ∧ (SlO B (b + 1 + 5 * (k : Int).toNat) w0 v3 S w ∧ RHd 9 B w.heap.size w r v9 (cellsOf encSt (slkL.take r))) ∧ Fr 24 [(0, .pointer (some ⟨B, 0, none⟩)), (3, v3), (9, v9), (10, .int .i64 r), (11, .int .i64 k)] a
set_option maxRecDepth 100000 in
set_option maxHeartbeats 1000000 in
theorem rsAt (B b : Nat) (w0 : World) (hb : b ≤ 50000) (r : Nat) (v9 : Value) (hr : 1 ≤ r ∧ r ≤ 4) (k : Int) : T3 Try.prog (fun a w => rsAI B b w0 hb r v9 hr k a w) (sel [1, 1, 0, 1, 4, 4, 0] rsM) (fun a w => ∃ q, Fr 24 ((12, .bool q) :: [(11, .int .i64 k)]) a ∧ ((q = true ↔ k < r) ∧ rsAI B b w0 hb r v9 hr k a w)) No 9 No := by
  refine T3.leaf ?_
  rintro Q JS JX JT K hS hK hX hE hT hR a w ⟨hk, v3, S, hpre, hW, ⟨fr, rfl, q0, q3, q9, q10, q11, _⟩⟩
  have hr4 := hr.2
  rw [fr_rsM, show fr 0 = _ from q0, show fr 3 = _ from q3, show fr 9 = _ from q9, show fr 10 = _ from q10, show fr 11 = _ from q11]
  clear q0 q3 q9 q10 q11
  conv => arg 2; whnf
  by_cases hlt : k < r
  · go_wp2_with fail
    refine Met.intro (hS _ _ ?_)
    exact ⟨true, Fr.of _ rfl ⟨rfl, rfl, trivial⟩, ⟨fun _ => hlt, fun _ => rfl⟩, hk, v3, S, hpre, hW, Fr.of _ rfl ⟨rfl, rfl, rfl, rfl, rfl, trivial⟩⟩
  · have hpb : decide (k < (r)) = false := by simp; omega
    go_wp2_with fail
    refine Met.intro (hS _ _ ?_)
    exact ⟨false, Fr.of _ rfl ⟨rfl, rfl, trivial⟩, ⟨(fun h => by cases h), fun h => absurd h (by omega)⟩, hk, v3, S, hpre, hW, Fr.of _ rfl ⟨rfl, rfl, rfl, rfl, rfl, trivial⟩⟩

set_option maxRecDepth 100000 in
set_option maxHeartbeats 1000000 in
theorem rsAn (B b : Nat) (w0 : World) (hb : b ≤ 50000) (r : Nat) (v9 : Value) (hr : 1 ≤ r ∧ r ≤ 4) (k : Int) : T3 Try.prog (fun a w => (0 ≤ k ∧ k < r) ∧ ∃ (v3 : Value) (S : List SlD), (CntS (k + 1) S) ∧ (SlO B (b + 1 + 5 * ((k + 1) : Int).toNat) w0 v3 S w ∧ RHd 9 B w.heap.size w r v9 (cellsOf encSt (slkL.take r))) ∧ Fr 24 [(0, .pointer (some ⟨B, 0, none⟩)), (3, v3), (9, v9), (10, .int .i64 r), (11, .int .i64 k)] a) (sel [1, 1, 0, 1, 4, 4, 1, 1, 1] rsM) (fun a w => rsAI B b w0 hb r v9 hr (k + 1) a w) No 9 No := by
  refine T3.leaf ?_
  rintro Q JS JX JT K hS hK hX hE hT hR a w ⟨hk, v3, S, hpre, hW, ⟨fr, rfl, q0, q3, q9, q10, q11, _⟩⟩
  obtain ⟨hk0, hk1⟩ := hk
  have hr4 := hr.2
  rw [fr_rsM, show fr 0 = _ from q0, show fr 3 = _ from q3, show fr 9 = _ from q9, show fr 10 = _ from q10, show fr 11 = _ from q11]
  clear q0 q3 q9 q10 q11
  conv => arg 2; whnf
  go_wp2_with fail
  refine Met.intro (hS _ _ ?_)
  exact ⟨⟨by omega, by omega⟩, v3, S, hpre, hW, Fr.of _ rfl ⟨rfl, rfl, rfl, rfl, rfl, trivial⟩⟩

set_option maxRecDepth 100000 in
set_option maxHeartbeats 1000000 in
theorem rsAloop (B b : Nat) (w0 : World) (hb : b ≤ 50000) (r : Nat) (v9 : Value) (hr : 1 ≤ r ∧ r ≤ 4) : T3 Try.prog (fun a w => rsAI B b w0 hb r v9 hr 0 a w) (sel [1, 1, 0, 1] rsM) (fun a w => ∃ (v3 : Value) (S : List SlD), (CntR S) ∧ (SlO B (b + 21) w0 v3 S w) ∧ Fr 24 [(3, v3)] a) No 9 No := by
  refine T3.loop (c := (sel [1, 1, 0, 1, 4, 4] rsM)) (fun ng_ a w => ∃ k : Int, (ng_ : Int) = r - k ∧ rsAI B b w0 hb r v9 hr k a w) (fun a w h => ⟨(r : Int).toNat, 0, by have := h.1.2; omega, h⟩) (fun ng_ => T3.ex fun k => T3.pure fun hng_ => ?_)
  refine T3.seq (s := (sel [1, 1, 0, 1, 4, 4, 0] rsM)) (c := (sel [1, 1, 0, 1, 4, 4, 1] rsM)) ((rsAt B b w0 hb r v9 hr k).noX) ?_
  refine T3.seq (s := (sel [1, 1, 0, 1, 4, 4, 1, 0] rsM)) (c := (sel [1, 1, 0, 1, 4, 4, 1, 1] rsM)) (S := fun a w => (0 ≤ k ∧ k < r) ∧ ∃ (v3 : Value) (S : List SlD), (CntS k S) ∧ (SlO B (b + 1 + 5 * (k : Int).toNat) w0 v3 S w ∧ RHd 9 B w.heap.size w r v9 (cellsOf encSt (slkL.take r))) ∧ Fr 24 [(0, .pointer (some ⟨B, 0, none⟩)), (3, v3), (9, v9), (10, .int .i64 r), (11, .int .i64 k)] a) ?_ (T3.seq (s := (sel [1, 1, 0, 1, 4, 4, 1, 1, 0] rsM)) (c := (sel [1, 1, 0, 1, 4, 4, 1, 1, 1] rsM)) (S := fun a w => (0 ≤ k ∧ k < r) ∧ ∃ (v3 : Value) (S : List SlD), (CntS (k + 1) S) ∧ (SlO B (b + 1 + 5 * ((k + 1) : Int).toNat) w0 v3 S w ∧ RHd 9 B w.heap.size w r v9 (cellsOf encSt (slkL.take r))) ∧ Fr 24 [(0, .pointer (some ⟨B, 0, none⟩)), (3, v3), (9, v9), (10, .int .i64 r), (11, .int .i64 k)] a) (T3.noX (T3.mono (R' := fun a w => (0 ≤ k ∧ k < r) ∧ ∃ (v3 : Value) (S : List SlD), (CntS k S) ∧ (SlO B (b + 1 + 5 * (k : Int).toNat) w0 v3 S w ∧ RHd 9 B w.heap.size w r v9 (cellsOf encSt (slkL.take r))) ∧ Fr 24 [(0, .pointer (some ⟨B, 0, none⟩)), (3, v3), (9, v9), (10, .int .i64 r), (11, .int .i64 k)] a) (S' := fun a w => (0 ≤ k ∧ k < r) ∧ ∃ (v3 : Value) (S : List SlD), (CntS (k + 1) S) ∧ (SlO B (b + 1 + 5 * ((k + 1) : Int).toNat) w0 v3 S w ∧ RHd 9 B w.heap.size w r v9 (cellsOf encSt (slkL.take r))) ∧ Fr 24 [(0, .pointer (some ⟨B, 0, none⟩)), (3, v3), (9, v9), (10, .int .i64 r), (11, .int .i64 k)] a) (rsb B b w0 hb r v9 hr k) (fun a w ⟨hk, v3, S, hp, hI⟩ => ⟨v3, S, ⟨hk, hp⟩, hI⟩) (fun a w ⟨v3, S, ⟨hk, hp⟩, hI⟩ => ⟨hk, v3, S, hp, hI⟩) (fun _ _ q => q) (fun _ _ q => q))) ?_)
  · refine T3.cond (o := .tmp 12) (x := .skip) (y := .exit 0) (fun a w => k < r ∧ rsAI B b w0 hb r v9 hr k a w) (fun a w => ¬ k < r ∧ rsAI B b w0 hb r v9 hr k a w) ?_ (T3.skip ?_) (T3.exit ?_)
    · rintro a w ⟨q, hF, hq, hI⟩
      have he := hF.eval 12 (by decide) (v := .bool q) (by simp)
      cases q
      · exact .inr ⟨he, (fun h => by have := hq.2 h; cases this), hI⟩
      · exact .inl ⟨he, hq.1 rfl, hI⟩
    · rintro a w ⟨hlt, hk, hI⟩
      exact ⟨⟨hk.1, hlt⟩, hI⟩
    · rintro a w ⟨hlt, hk, hI⟩
      obtain rfl : k = r := by omega
      obtain ⟨v3, S, hl, hW, hF⟩ := hI
      exact ⟨v3, S, ⟨⟨by have := hl.h; omega, by have := hl.h; omega⟩, hl.q⟩, hW.1.mono (by omega), hF.sub (by simp)⟩
  · intro a w hx
    have hk := hx.1
    exact (((rsAn B b w0 hb r v9 hr k).noX).post (fun a w q => ⟨ng_ - 1, by omega, k + 1, by omega, q⟩)) a w hx
set_option maxRecDepth 100000 in
set_option maxHeartbeats 1000000 in
theorem rs7 (B b : Nat) (w0 : World) (v3 : Value) (S : List SlD) : T3 Try.prog (fun a w => (SlO B (b + 21) w0 v3 S w) ∧ Fr 24 [(3, v3)] a) (sel [1, 1, 1, 0] rsM) (fun a w => (SlO B (b + 21) w0 v3 S w) ∧ Fr 24 [(2, v3)] a) No 9 No := by
  refine T3.leaf ?_
  rintro Q JS JX JT K hS hK hX hE hT hR a w ⟨hW, ⟨fr, rfl, q3, _⟩⟩
  have HW := Lib.hid hW
  obtain ⟨p3, c3, hv3⟩ := (Row.of_owns hW.o).shape
  subst hv3
  clear hW
  rw [fr_rsM, show fr 3 = _ from q3]
  clear q3
  conv => arg 2; whnf
  go_wp2_with fail
  refine Met.intro (hS _ _ ?_)
  exact ⟨HW.out, Fr.of _ rfl ⟨rfl, trivial⟩⟩

set_option maxRecDepth 100000 in
set_option maxHeartbeats 1000000 in
theorem rs_all (B b : Nat) (w0 : World) (hb : b ≤ 50000) : T3 Try.prog (fun a w => (Str B w b ∧ IsW w0 w) ∧ Fr 24 [(0, .pointer (some ⟨B, 0, none⟩))] a) rsM No No 9 (fun a w => ∃ (v3 : Value) (S : List SlD), (CntR S) ∧ (SlO B (b + 21) w0 v3 S w) ∧ Fr 24 [(2, v3)] a) := by
  refine T3.seq (s := (sel [0] rsM)) (c := (sel [1] rsM)) (T3.noT (rs0 B b w0 hb)) ?_
  refine T3.seq (s := (sel [1, 0] rsM)) (c := (sel [1, 1] rsM)) (T3.noT (rs1 B b w0 hb)) ?_
  refine T3.seq (s := (sel [1, 1, 0] rsM)) (c := (sel [1, 1, 1] rsM)) (T3.noT (T3.seq (s := (sel [1, 1, 0, 0] rsM)) (c := (sel [1, 1, 0, 1] rsM)) (rs2 B b w0 hb) (T3.ex fun r => T3.ex fun v9 => T3.pure fun hr => rsAloop B b w0 hb r v9 hr))) ?_
  refine T3.ex fun v3 => T3.ex fun S => T3.pure fun hn => ?_
  exact T3.seq (s := (sel [1, 1, 1, 0] rsM)) (c := .ret) (T3.noT (rs7 B b w0 v3 S)) (T3.ret fun a w q => ⟨v3, S, hn, q⟩)

set_option maxRecDepth 100000 in
set_option maxHeartbeats 1000000 in
theorem rightSlots_any (B b : Nat) (w0 : World) (hS : Str B w0 b) (hb : b ≤ 50000) : Calls Try.prog 22 #[.pointer (some ⟨B, 0, none⟩)] w0 fun e w' => ∃ (v3 : Value) (S : List SlD), e = .returned v3 ∧ CntR S ∧ SlO B (b + 21) w0 v3 S w' := by
  have hall := rs_all B b w0 hb
  go_enter Try.func22, Try.ntmps22
  refine T3.done (s := rsM) hall ⟨⟨hS, rfl⟩, Fr.of _ rfl ⟨rfl, trivial⟩⟩ ?_
  rintro a w ⟨v3, S, hn, hW, fr, rfl, q2, _⟩
  rw [fr_rsM, show fr 2 = _ from q2]
  go_ret
  exact ⟨v3, S, rfl, hn, hW⟩
end Go.Proofs.Ytnmdpphddimfbaa
/-
  Line-ups: right scorers that the stream hands out. Conditions: the bounds that each theorem names.
-/
set_option linter.unusedVariables false
namespace Go.Proofs.Ytnmdpphddimfbaa
open Go.RowKit Go.Bw
theorem el_scL : Elem Try.prog 28 63 (.agg #[.string ByteArray.empty, .slice none 0 0, .int .i64 0, .int .i64 0, .bool false]) 5 64 := ⟨by kernel_rfl, by kernel_rfl, by kernel_rfl, by decide, by decide⟩
/-- A scorer's numbers lie within Go's. -/
structure NuO (x : ScD) : Prop where
  n : -9223372036854775808 ≤ x.num ∧ x.num ≤ 9223372036854775807
  d : -9223372036854775808 ≤ x.den ∧ x.den ≤ 9223372036854775807
/-- Scorers that the stream handed out. -/
structure ScO (B b : Nat) (w0 : World) (v : Value) (L : List ScD) (w : World) : Prop where
  d : Drawn B w0 w b
  hB : B < w0.heap.size
  o : w.ownsRow w0.heap.size 63 5 v L.length (cellsOf encSc L)
  i : ∀ x ∈ L, PsO B w.heap.size w x.pv x.ps
  z : ∀ x ∈ L, Sm x.pl
  m : ∀ x ∈ L, NuO x
section
variable {M M' B b b' : Nat} {w0 w w' : World} {v v' : Value} {L : List ScD}
theorem ScO.drawn (h : ScO B b w0 v L w) (d : Drawn B w w' b') : ScO B b' w0 v L w' := ⟨h.d.trans d, h.hB, owns_drawn h.o d h.hB, fun x hx => ((h.i x hx).str d.gr).mono d.size, h.z, h.m⟩
theorem ScO.mono (h : ScO B b w0 v L w) (hb : b ≤ b') : ScO B b' w0 v L w := ⟨h.d.mono hb, h.hB, h.o, h.i, h.z, h.m⟩
theorem ScO.alloc (h : ScO B b w0 v L w) (ob : Obj) : ScO B b w0 v L (w.alloc ob) := h.drawn ((Drawn.refl h.d.str).alloc ob)
theorem ScO.below (h : ScO B b w0 v L w) (g : Below w.heap.size w w') : ScO B b w0 v L w' := h.drawn ((Drawn.refl h.d.str).below g)
theorem ScO.app (h : ScO B b w0 v L w) {x : ScD} (hx : PsO B w.heap.size w x.pv x.ps) (hk : Sm x.pl) (hm : NuO x) (ho : w'.ownsRow w0.heap.size 63 5 v' (L.length + 1) (cellsOf encSc L ++ [.string x.pl, x.pv, .int .i64 x.num, .int .i64 x.den, .bool x.pd])) (g : w.grownBy w' v.ownBlock) : ScO B b w0 v' (L ++ [x]) w' :=
  ⟨h.d.app h.o (Nat.le_refl _) h.hB g, h.hB, by rw [cellsOf_snoc, List.length_append]; exact ho,
    fun y hy => by
      rcases List.mem_append.1 hy with hy | hy
      · exact ((h.i y hy).other h.o (by decide) g).mono g.size
      · simp at hy; subst hy; exact (hx.other h.o (by decide) g).mono g.size,
    fun y hy => by
      rcases List.mem_append.1 hy with hy | hy
      · exact h.z y hy
      · simp at hy; subst hy; exact hk,
    fun y hy => by
      rcases List.mem_append.1 hy with hy | hy
      · exact h.m y hy
      · simp at hy; subst hy; exact hm⟩
theorem ScO.nil (h : Drawn B w0 w b) (hB : B < w0.heap.size) : ScO B b w0 (.slice none 0 0) [] w := ⟨h, hB, World.ownsRow_nil _ _ _ _, fun x hx => (by cases hx), fun x hx => (by cases hx), fun x hx => (by cases hx)⟩
end
/-- At most so many. -/
structure LeI (k : Int) (n : Nat) : Prop where
  h : (n : Int) ≤ k
def nmL : List ByteArray := [⟨#[97, 110, 110]⟩, ⟨#[98, 101, 97]⟩, ⟨#[99, 105, 100]⟩, ⟨#[100, 97, 110]⟩, ⟨#[101, 118, 101]⟩, ⟨#[102, 111, 120]⟩]
theorem nmL_sm : SmAll nmL := by intro s hs; simp [nmL] at hs; rcases hs with rfl | rfl | rfl | rfl | rfl | rfl <;> decide
theorem ofH_small {n : Int} (h : n ∈ [500, 500, 700, 650, 0, -100, 1040]) : -1000000000000000 ≤ n ∧ n ≤ 1000000000000000 := by
  simp at h
  omega
noncomputable def rcM : Code := (Try.f26.body).getD .skip
set_option maxRecDepth 100000 in
theorem fr_rcM (f : Nat → Value) : frame 31 f = ⟨#[f 0, f 1, f 2, f 3, f 4, f 5, f 6, f 7, f 8, f 9, f 10, f 11, f 12, f 13, f 14, f 15, f 16, f 17, f 18, f 19, f 20, f 21, f 22, f 23, f 24, f 25, f 26, f 27, f 28, f 29, f 30], []⟩ := by rfl
set_option maxRecDepth 100000 in
set_option maxHeartbeats 1000000 in
theorem rc0 (B b : Nat) (w0 : World) (hb : b ≤ 50000) : T3 Try.prog (fun a w => (Str B w b ∧ IsW w0 w) ∧ Fr 31 [(0, .pointer (some ⟨B, 0, none⟩))] a) (sel [0] rcM) (fun a w => (Str B w b ∧ IsW w0 w) ∧ Fr 31 [(0, .pointer (some ⟨B, 0, none⟩))] a) No 9 No := by
  refine T3.leaf ?_
  rintro Q JS JX JT K hS hK hX hE hT hR a w ⟨hW, ⟨fr, rfl, q0, _⟩⟩
  rw [fr_rcM, show fr 0 = _ from q0]
  clear q0
  conv => arg 2; whnf
  go_wp2_with fail
  refine Met.intro (hS _ _ ?_)
  exact ⟨hW, Fr.of _ rfl ⟨rfl, trivial⟩⟩

set_option maxRecDepth 100000 in
set_option maxHeartbeats 1000000 in
theorem rc1 (B b : Nat) (w0 : World) (hb : b ≤ 50000) : T3 Try.prog (fun a w => (Str B w b ∧ IsW w0 w) ∧ Fr 31 [(0, .pointer (some ⟨B, 0, none⟩))] a) (sel [1, 0] rcM) (fun a w => (Str B w b ∧ IsW w0 w) ∧ Fr 31 [(0, .pointer (some ⟨B, 0, none⟩)), (3, .slice none 0 0)] a) No 9 No := by
  refine T3.leaf ?_
  rintro Q JS JX JT K hS hK hX hE hT hR a w ⟨hW, ⟨fr, rfl, q0, _⟩⟩
  rw [fr_rcM, show fr 0 = _ from q0]
  clear q0
  conv => arg 2; whnf
  go_wp2_with fail
  refine Met.intro (hS _ _ ?_)
  exact ⟨hW, Fr.of _ rfl ⟨rfl, rfl, trivial⟩⟩

set_option maxRecDepth 100000 in
set_option maxHeartbeats 1000000 in
theorem rc2 (B b : Nat) (w0 : World) (hb : b ≤ 50000) : T3 Try.prog (fun a w => (Str B w b ∧ IsW w0 w) ∧ Fr 31 [(0, .pointer (some ⟨B, 0, none⟩)), (3, .slice none 0 0)] a) (sel [1, 1, 0, 0] rcM) (fun a w => (0 ≤ (0 : Int) ∧ (0 : Int) ≤ 6) ∧ ∃ (v3 : Value) (L : List ScD), (LeI 0 L.length) ∧ (ScO B (b + 8 * (0 : Int).toNat) w0 v3 L w ∧ RHd 9 B w.heap.size w 6 (.slice (some ⟨w0.heap.size, 0, none⟩) 6 6) (cellsOf encSt nmL)) ∧ Fr 31 [(0, .pointer (some ⟨B, 0, none⟩)), (3, v3), (6, .slice (some ⟨w0.heap.size, 0, none⟩) 6 6), (7, .int .i64 6), (8, .int .i64 0)] a) No 9 No := by
  refine T3.leaf ?_
  rintro Q JS JX JT K hS hK hX hE hT hR a w ⟨⟨hS_, hW⟩, ⟨fr, rfl, q0, q3, _⟩⟩
  obtain rfl : w = w0 := hW
  have hlt := hS_.lt
  have hO := owns_lit w w.heap.size 9 #[.string ⟨#[97, 110, 110]⟩, .string ⟨#[98, 101, 97]⟩, .string ⟨#[99, 105, 100]⟩, .string ⟨#[100, 97, 110]⟩, .string ⟨#[101, 118, 101]⟩, .string ⟨#[102, 111, 120]⟩] 6 (by decide) rfl (Nat.le_refl _)
  have hSl : ScO B (b + 8 * (0 : Int).toNat) w (.slice none 0 0) [] (w.alloc (.cells #[.string ⟨#[97, 110, 110]⟩, .string ⟨#[98, 101, 97]⟩, .string ⟨#[99, 105, 100]⟩, .string ⟨#[100, 97, 110]⟩, .string ⟨#[101, 118, 101]⟩, .string ⟨#[102, 111, 120]⟩] 9)) := ScO.nil (((Drawn.refl hS_).alloc (.cells #[.string ⟨#[97, 110, 110]⟩, .string ⟨#[98, 101, 97]⟩, .string ⟨#[99, 105, 100]⟩, .string ⟨#[100, 97, 110]⟩, .string ⟨#[101, 118, 101]⟩, .string ⟨#[102, 111, 120]⟩] 9)).mono (by simp)) hlt
  have hHe := RHd.of_owns hO hlt
  have HF := Lib.hid (show ScO B (b + 8 * (0 : Int).toNat) w (.slice none 0 0) [] (w.alloc (.cells #[.string ⟨#[97, 110, 110]⟩, .string ⟨#[98, 101, 97]⟩, .string ⟨#[99, 105, 100]⟩, .string ⟨#[100, 97, 110]⟩, .string ⟨#[101, 118, 101]⟩, .string ⟨#[102, 111, 120]⟩] 9)) ∧ RHd 9 B (w.alloc (.cells #[.string ⟨#[97, 110, 110]⟩, .string ⟨#[98, 101, 97]⟩, .string ⟨#[99, 105, 100]⟩, .string ⟨#[100, 97, 110]⟩, .string ⟨#[101, 118, 101]⟩, .string ⟨#[102, 111, 120]⟩] 9)).heap.size (w.alloc (.cells #[.string ⟨#[97, 110, 110]⟩, .string ⟨#[98, 101, 97]⟩, .string ⟨#[99, 105, 100]⟩, .string ⟨#[100, 97, 110]⟩, .string ⟨#[101, 118, 101]⟩, .string ⟨#[102, 111, 120]⟩] 9)) 6 (.slice (some ⟨w.heap.size, 0, none⟩) 6 6) (cellsOf encSt nmL) from ⟨hSl, hHe⟩)
  clear hSl hHe hO
  rw [fr_rcM, show fr 0 = _ from q0, show fr 3 = _ from q3]
  clear q0 q3
  conv => arg 2; whnf
  go_wp2_with fail
  refine Met.intro (hS _ _ ?_)
  exact ⟨⟨by omega, by omega⟩, _, [], ⟨by simp⟩, HF.out, Fr.of _ rfl ⟨rfl, rfl, rfl, rfl, rfl, trivial⟩⟩

set_option maxRecDepth 100000 in
set_option maxHeartbeats 1000000 in
theorem rc4 (B b : Nat) (w0 : World) (hb : b ≤ 50000) (k : Int) : T3 Try.prog (fun a w => ∃ (v3 : Value) (L : List ScD), ((0 ≤ k ∧ k < 6) ∧ LeI k L.length) ∧ (ScO B (b + 8 * (k : Int).toNat) w0 v3 L w ∧ RHd 9 B w.heap.size w 6 (.slice (some ⟨w0.heap.size, 0, none⟩) 6 6) (cellsOf encSt nmL)) ∧ Fr 31 [(0, .pointer (some ⟨B, 0, none⟩)), (3, v3), (6, .slice (some ⟨w0.heap.size, 0, none⟩) 6 6), (7, .int .i64 6), (8, .int .i64 k)] a) (sel [1, 1, 0, 1, 4, 4, 1, 1, 0, 4, 0] rcM) (fun a w => ∃ (v3 : Value) (L : List ScD), ((0 ≤ k ∧ k < 6) ∧ LeI k L.length) ∧ (ScO B (b + 8 * (k : Int).toNat) w0 v3 L w ∧ RHd 9 B w.heap.size w 6 (.slice (some ⟨w0.heap.size, 0, none⟩) 6 6) (cellsOf encSt nmL)) ∧ Fr 31 [(0, .pointer (some ⟨B, 0, none⟩)), (3, v3), (5, .string (geta nmL k)), (6, .slice (some ⟨w0.heap.size, 0, none⟩) 6 6), (7, .int .i64 6), (8, .int .i64 k)] a) No 9 No := by
  refine T3.leaf ?_
  rintro Q JS JX JT K hS hK hX hE hT hR a w ⟨v3, L, hpre, hW, ⟨fr, rfl, q0, q3, q6, q7, q8, _⟩⟩
  have hpp := Lib.hid hpre
  obtain ⟨⟨hk0, hk1⟩, hl⟩ := hpre
  have HW := Lib.hid hW
  obtain ⟨hlen, hcs⟩ := hW.2.row.els encSt_length (by decide)
  obtain ⟨p3, c3, hv3⟩ := (Row.of_owns hW.1.o).shape
  subst hv3
  rcases hcs with ⟨h9, h0⟩ | ⟨bz, off, cap, hv, _, hbz, hnc, hcm, hcell⟩
  · cases h9
  simp only [Value.slice.injEq, Option.some.injEq, Addr.mk.injEq] at hv
  obtain ⟨⟨rfl, rfl, _⟩, _, rfl⟩ := hv
  have t0 := hcell k hk0 (by omega) 0 _ rfl
  rw [Nat.mul_one, Nat.add_zero, Nat.zero_add] at t0
  clear hcell hW hlen
  generalize geta nmL k = x at *
  rw [fr_rcM, show fr 0 = _ from q0, show fr 3 = _ from q3, show fr 6 = _ from q6, show fr 7 = _ from q7, show fr 8 = _ from q8]
  clear q0 q3 q6 q7 q8
  conv => arg 2; whnf
  go_wp2_with fail
  refine Met.intro (hS _ _ ?_)
  exact ⟨_, L, hpp.out, HW.out, Fr.of _ rfl ⟨rfl, rfl, rfl, rfl, rfl, rfl, trivial⟩⟩

set_option maxRecDepth 100000 in
set_option maxHeartbeats 1000000 in
theorem rc5 (B b : Nat) (w0 : World) (hb : b ≤ 50000) (k : Int) (v3 : Value) (L : List ScD) : T3 Try.prog (fun a w => ((0 ≤ k ∧ k < 6) ∧ LeI k L.length) ∧ (ScO B (b + 8 * (k : Int).toNat) w0 v3 L w ∧ RHd 9 B w.heap.size w 6 (.slice (some ⟨w0.heap.size, 0, none⟩) 6 6) (cellsOf encSt nmL)) ∧ Fr 31 [(0, .pointer (some ⟨B, 0, none⟩)), (3, v3), (5, .string (geta nmL k)), (6, .slice (some ⟨w0.heap.size, 0, none⟩) 6 6), (7, .int .i64 6), (8, .int .i64 k)] a) (sel [1, 1, 0, 1, 4, 4, 1, 1, 0, 4, 1, 0] rcM) (fun a w => ∃ q, Fr 31 ((14, .bool q) :: [(0, .pointer (some ⟨B, 0, none⟩)), (3, v3), (5, .string (geta nmL k)), (6, .slice (some ⟨w0.heap.size, 0, none⟩) 6 6), (7, .int .i64 6), (8, .int .i64 k)]) a ∧ (((0 ≤ k ∧ k < 6) ∧ LeI k L.length) ∧ (ScO B (b + 8 * k.toNat + 1) w0 v3 L w ∧ RHd 9 B w.heap.size w 6 (.slice (some ⟨w0.heap.size, 0, none⟩) 6 6) (cellsOf encSt nmL)))) No 9 No := by
  refine T3.leaf ?_
  rintro Q JS JX JT K hS hK hX hE hT hR a w ⟨hpre, hW, ⟨fr, rfl, q0, q3, q5, q6, q7, q8, _⟩⟩
  have hpp := Lib.hid hpre
  have hk1 := hpre.1
  clear hpre
  obtain ⟨p3, c3, hv3⟩ := (Row.of_owns hW.1.o).shape
  subst hv3
  generalize geta nmL k = x at *
  rw [fr_rcM, show fr 0 = _ from q0, show fr 3 = _ from q3, show fr 5 = _ from q5, show fr 6 = _ from q6, show fr 7 = _ from q7, show fr 8 = _ from q8]
  clear q0 q3 q5 q6 q7 q8
  conv => arg 2; whnf
  go_wp2_with fail
  refine (flip_d B (b + 8 * k.toNat) _ w hW.1.d.str rfl (by omega)).mono ?_
  rintro e w1 ⟨q, rfl, hd⟩
  have HW := Lib.hid (And.intro (hW.1.drawn hd) ((hW.2.str hd.gr).mono hd.size))
  clear hd hW
  go_wp2_with fail
  refine Met.intro (hS _ _ ?_)
  exact ⟨_, Fr.of _ rfl ⟨rfl, rfl, rfl, rfl, rfl, rfl, rfl, trivial⟩, hpp.out, HW.out⟩

set_option maxRecDepth 100000 in
set_option maxHeartbeats 1000000 in
theorem rc6 (B b : Nat) (w0 : World) (hb : b ≤ 50000) (k : Int) (v3 : Value) (L : List ScD) : T3 Try.prog (fun a w => ((0 ≤ k ∧ k < 6) ∧ LeI k L.length) ∧ (ScO B (b + 8 * k.toNat + 1) w0 v3 L w ∧ RHd 9 B w.heap.size w 6 (.slice (some ⟨w0.heap.size, 0, none⟩) 6 6) (cellsOf encSt nmL)) ∧ Fr 31 [(0, .pointer (some ⟨B, 0, none⟩)), (3, v3), (5, .string (geta nmL k)), (6, .slice (some ⟨w0.heap.size, 0, none⟩) 6 6), (7, .int .i64 6), (8, .int .i64 k)] a) (sel [1, 1, 0, 1, 4, 4, 1, 1, 0, 4, 1, 1, 2] rcM) (fun a w => ∃ (v3 : Value) (L : List ScD), ((0 ≤ k ∧ k < 6) ∧ LeI (k + 1) L.length) ∧ (ScO B (b + 8 * ((k + 1) : Int).toNat) w0 v3 L w ∧ RHd 9 B w.heap.size w 6 (.slice (some ⟨w0.heap.size, 0, none⟩) 6 6) (cellsOf encSt nmL)) ∧ Fr 31 [(0, .pointer (some ⟨B, 0, none⟩)), (3, v3), (6, .slice (some ⟨w0.heap.size, 0, none⟩) 6 6), (7, .int .i64 6), (8, .int .i64 k)] a) No 9 No := by
  refine T3.leaf ?_
  rintro Q JS JX JT K hS hK hX hE hT hR a w ⟨hpre, hW, ⟨fr, rfl, q0, q3, q5, q6, q7, q8, _⟩⟩
  have hpp := Lib.hid hpre
  obtain ⟨⟨hk0, hk1⟩, hl⟩ := hpre
  have hl4 : L.length ≤ 6 := by have := hl.h; omega
  clear hl
  have hE := el_scL
  have hkx := nmL_sm _ (geta_mem (l := nmL) (i := k) hk0 (by simp [nmL]; omega))
  have hW1 := hW.1
  have hW2 := hW.2
  obtain ⟨p3, c3, hv3⟩ := (Row.of_owns hW.1.o).shape
  subst hv3
  clear hW
  generalize geta nmL k = x at *
  rw [fr_rcM, show fr 0 = _ from q0, show fr 3 = _ from q3, show fr 5 = _ from q5, show fr 6 = _ from q6, show fr 7 = _ from q7, show fr 8 = _ from q8]
  clear q0 q3 q5 q6 q7 q8
  conv => arg 2; whnf
  go_wp2_with fail
  refine (spots_any B (b + 8 * k.toNat + 1) w hW1.d.str (by omega)).mono ?_
  rintro e w1 ⟨pv, ps, rfl, hn4, hsm, hop, hd⟩
  have h1 := hW1.drawn hd
  have hH1 := (hW2.str hd.gr).mono hd.size
  have hBw : B < w.heap.size := by have := hW1.hB; have := hW1.d.size; omega
  have hps : PsO B w1.heap.size w1 pv ps := ⟨RHd.of_owns hop hBw, hsm, by omega⟩
  obtain ⟨pp, cc, hpv⟩ := (Row.of_owns hop).shape
  subst hpv
  clear hd hop hW1 hW2
  go_wp2_with fail
  refine (pick_lit B (b + 8 * k.toNat + 1 + 5) [500, 500, 700, 650, 0, -100, 1040] 7 _ _ _ rfl rfl (by decide) (by decide) h1.d.str (by omega)).mono ?_
  rintro e w2 ⟨m, rfl, hm, hd⟩
  have hms := ofH_small hm
  have hob := ofH_bounds m hms.1 hms.2
  have h2 := h1.drawn hd
  have hH2 := (hH1.str hd.gr).mono hd.size
  have hps := (hps.str hd.gr).mono hd.size
  clear hd hm h1 hH1
  go_wp2_with fail
  refine (ofHundredths_ref m _ hms.1 hms.2).mono ?_
  rintro e w3 ⟨rfl, hbe⟩
  have hd := (Drawn.refl h2.d.str).below hbe
  have h3 := h2.drawn hd
  have hH3 := (hH2.str hd.gr).mono hd.size
  have hps := (hps.str hd.gr).mono hd.size
  clear hd hbe h2 hH2 hms
  generalize ofHn m = nn at *
  generalize ofHd m = dd at *
  go_wp2_with fail
  refine (flip_d B (b + 8 * k.toNat + 1 + 5 + 1) _ _ h3.d.str rfl (by omega)).mono ?_
  rintro e w4 ⟨q, rfl, hd⟩
  have h4 := h3.drawn hd
  have hH4 := (hH3.str hd.gr).mono hd.size
  have hps := (hps.str hd.gr).mono hd.size
  clear hd h3 hH3
  have hz1 := h4.d.size
  go_wp2_with (at_builtin; refine app_law rfl _ _ _ rfl hE (h4.o.alloc _) rfl [.string x, .slice pp ps.length cc, .int .i64 nn, .int .i64 dd, .bool (!q)] rfl rfl (cells_new w4 #[_, _, _, _, _] _) (by simp [Value.oneCell']) (by omega) (by simp; omega) ?_; intro v' w5 hown2 hgr2)
  have hps2 := (hps.str (World.grownBy_alloc w4 (.cells #[.string x, .slice pp ps.length cc, .int .i64 nn, .int .i64 dd, .bool (!q)] 63) (some B))).mono (show w4.heap.size ≤ (w4.alloc (.cells #[.string x, .slice pp ps.length cc, .int .i64 nn, .int .i64 dd, .bool (!q)] 63)).heap.size by simp)
  have h5 := (h4.alloc _).app (x := ⟨x, .slice pp ps.length cc, ps, nn, dd, !q⟩) hps2 hkx ⟨⟨by show _ ≤ nn; omega, by show nn ≤ _; omega⟩, ⟨by show _ ≤ dd; omega, by show dd ≤ _; omega⟩⟩ hown2 hgr2
  have hH5 := ((hH4.alloc (.cells #[.string x, .slice pp ps.length cc, .int .i64 nn, .int .i64 dd, .bool (!q)] 63)).other (h4.alloc _).o (by decide) hgr2).mono (show w4.heap.size ≤ w5.heap.size by have := hgr2.size; simp at this; omega)
  refine Met.intro (hS _ _ ?_)
  exact ⟨_, _, ⟨hpp.out.1, ⟨by have := hpp.out.2.h; simp; omega⟩⟩, ⟨h5.mono (by omega), hH5⟩, Fr.of _ rfl ⟨rfl, rfl, rfl, rfl, rfl, trivial⟩⟩

set_option maxRecDepth 100000 in
set_option maxHeartbeats 1000000 in
theorem rcb (B b : Nat) (w0 : World) (hb : b ≤ 50000) (k : Int) : T3 Try.prog (fun a w => ∃ (v3 : Value) (L : List ScD), ((0 ≤ k ∧ k < 6) ∧ LeI k L.length) ∧ (ScO B (b + 8 * (k : Int).toNat) w0 v3 L w ∧ RHd 9 B w.heap.size w 6 (.slice (some ⟨w0.heap.size, 0, none⟩) 6 6) (cellsOf encSt nmL)) ∧ Fr 31 [(0, .pointer (some ⟨B, 0, none⟩)), (3, v3), (6, .slice (some ⟨w0.heap.size, 0, none⟩) 6 6), (7, .int .i64 6), (8, .int .i64 k)] a) (sel [1, 1, 0, 1, 4, 4, 1, 1, 0] rcM) (fun a w => ∃ (v3 : Value) (L : List ScD), ((0 ≤ k ∧ k < 6) ∧ LeI (k + 1) L.length) ∧ (ScO B (b + 8 * ((k + 1) : Int).toNat) w0 v3 L w ∧ RHd 9 B w.heap.size w 6 (.slice (some ⟨w0.heap.size, 0, none⟩) 6 6) (cellsOf encSt nmL)) ∧ Fr 31 [(0, .pointer (some ⟨B, 0, none⟩)), (3, v3), (6, .slice (some ⟨w0.heap.size, 0, none⟩) 6 6), (7, .int .i64 6), (8, .int .i64 k)] a) No 9 No := by
  refine T3.block (id' := 1) (c := (sel [1, 1, 0, 1, 4, 4, 1, 1, 0, 4] rcM)) (by decide) (T3.seq (s := (sel [1, 1, 0, 1, 4, 4, 1, 1, 0, 4, 0] rcM)) (c := (sel [1, 1, 0, 1, 4, 4, 1, 1, 0, 4, 1] rcM)) (rc4 B b w0 hb k) (T3.ex fun v3 => T3.ex fun L => ?_))
  refine T3.test (s := (sel [1, 1, 0, 1, 4, 4, 1, 1, 0, 4, 1, 0] rcM)) (x := (sel [1, 1, 0, 1, 4, 4, 1, 1, 0, 4, 1, 1, 2] rcM)) (y := .skip) (C := fun _ => (0 ≤ k ∧ k < 6) ∧ LeI k L.length) (W := fun w => ScO B (b + 8 * k.toNat + 1) w0 v3 L w ∧ RHd 9 B w.heap.size w 6 (.slice (some ⟨w0.heap.size, 0, none⟩) 6 6) (cellsOf encSt nmL)) (by decide) (rc5 B b w0 hb k v3 L) ?_ (T3.skip ?_)
  · exact T3.pre (rc6 B b w0 hb k v3 L) (fun a w q => ⟨q.2.1, q.2.2, q.1.tail⟩)
  · rintro a w ⟨hp, hW, hF⟩
    exact ⟨v3, L, ⟨hp.1, ⟨by have := hp.2.h; omega⟩⟩, ⟨hW.1.mono (by omega), hW.2⟩, hF.sub (by simp)⟩

def rcAI (B b : Nat) (w0 : World) (hb : b ≤ 50000) (k : Int) (a : Act) (w : World) : Prop := (0 ≤ k ∧ k ≤ 6) ∧ ∃ (v3 : Value) (L : List ScD), (LeI k L.length) ∧ (ScO B (b + 8 * (k : Int).toNat) w0 v3 L w ∧ RHd 9 B w.heap.size w 6 (.slice (some ⟨w0.heap.size, 0, none⟩) 6 6) (cellsOf encSt nmL)) ∧ Fr 31 [(0, .pointer (some ⟨B, 0, none⟩)), (3, v3), (6, .slice (some ⟨w0.heap.size, 0, none⟩) 6 6), (7, .int .i64 6), (8, .int .i64 k)] a
set_option maxRecDepth 100000 in
set_option maxHeartbeats 1000000 in
theorem rcAt (B b : Nat) (w0 : World) (hb : b ≤ 50000) (k : Int) : T3 Try.prog (fun a w => rcAI B b w0 hb k a w) (sel [1, 1, 0, 1, 4, 4, 0] rcM) (fun a w => ∃ q, Fr 31 ((9, .bool q) :: [(8, .int .i64 k)]) a ∧ ((q = true ↔ k < 6) ∧ rcAI B b w0 hb k a w)) No 9 No := by
  refine T3.leaf ?_
  rintro Q JS JX JT K hS hK hX hE hT hR a w ⟨hk, v3, L, hpre, hW, ⟨fr, rfl, q0, q3, q6, q7, q8, _⟩⟩
  rw [fr_rcM, show fr 0 = _ from q0, show fr 3 = _ from q3, show fr 6 = _ from q6, show fr 7 = _ from q7, show fr 8 = _ from q8]
  clear q0 q3 q6 q7 q8
  conv => arg 2; whnf
  by_cases hlt : k < 6
  · go_wp2_with fail
    refine Met.intro (hS _ _ ?_)
    exact ⟨true, Fr.of _ rfl ⟨rfl, rfl, trivial⟩, ⟨fun _ => hlt, fun _ => rfl⟩, hk, v3, L, hpre, hW, Fr.of _ rfl ⟨rfl, rfl, rfl, rfl, rfl, trivial⟩⟩
  · have hpb : decide (k < (6)) = false := by simp; omega
    go_wp2_with fail
    refine Met.intro (hS _ _ ?_)
    exact ⟨false, Fr.of _ rfl ⟨rfl, rfl, trivial⟩, ⟨(fun h => by cases h), fun h => absurd h (by omega)⟩, hk, v3, L, hpre, hW, Fr.of _ rfl ⟨rfl, rfl, rfl, rfl, rfl, trivial⟩⟩

set_option maxRecDepth 100000 in
set_option maxHeartbeats 1000000 in
theorem rcAn (B b : Nat) (w0 : World) (hb : b ≤ 50000) (k : Int) : T3 Try.prog (fun a w => (0 ≤ k ∧ k < 6) ∧ ∃ (v3 : Value) (L : List ScD), (LeI (k + 1) L.length) ∧ (ScO B (b + 8 * ((k + 1) : Int).toNat) w0 v3 L w ∧ RHd 9 B w.heap.size w 6 (.slice (some ⟨w0.heap.size, 0, none⟩) 6 6) (cellsOf encSt nmL)) ∧ Fr 31 [(0, .pointer (some ⟨B, 0, none⟩)), (3, v3), (6, .slice (some ⟨w0.heap.size, 0, none⟩) 6 6), (7, .int .i64 6), (8, .int .i64 k)] a) (sel [1, 1, 0, 1, 4, 4, 1, 1, 1] rcM) (fun a w => rcAI B b w0 hb (k + 1) a w) No 9 No := by
  refine T3.leaf ?_
  rintro Q JS JX JT K hS hK hX hE hT hR a w ⟨hk, v3, L, hpre, hW, ⟨fr, rfl, q0, q3, q6, q7, q8, _⟩⟩
  obtain ⟨hk0, hk1⟩ := hk
  rw [fr_rcM, show fr 0 = _ from q0, show fr 3 = _ from q3, show fr 6 = _ from q6, show fr 7 = _ from q7, show fr 8 = _ from q8]
  clear q0 q3 q6 q7 q8
  conv => arg 2; whnf
  go_wp2_with fail
  refine Met.intro (hS _ _ ?_)
  exact ⟨⟨by omega, by omega⟩, v3, L, hpre, hW, Fr.of _ rfl ⟨rfl, rfl, rfl, rfl, rfl, trivial⟩⟩

set_option maxRecDepth 100000 in
set_option maxHeartbeats 1000000 in
theorem rcAloop (B b : Nat) (w0 : World) (hb : b ≤ 50000) : T3 Try.prog (fun a w => rcAI B b w0 hb 0 a w) (sel [1, 1, 0, 1] rcM) (fun a w => ∃ (v3 : Value) (L : List ScD), (L.length ≤ 6) ∧ (ScO B (b + 48) w0 v3 L w) ∧ Fr 31 [(3, v3)] a) No 9 No := by
  refine T3.loop (c := (sel [1, 1, 0, 1, 4, 4] rcM)) (fun ng_ a w => ∃ k : Int, (ng_ : Int) = 6 - k ∧ rcAI B b w0 hb k a w) (fun a w h => ⟨(6 : Int).toNat, 0, by have := h.1.2; omega, h⟩) (fun ng_ => T3.ex fun k => T3.pure fun hng_ => ?_)
  refine T3.seq (s := (sel [1, 1, 0, 1, 4, 4, 0] rcM)) (c := (sel [1, 1, 0, 1, 4, 4, 1] rcM)) ((rcAt B b w0 hb k).noX) ?_
  refine T3.seq (s := (sel [1, 1, 0, 1, 4, 4, 1, 0] rcM)) (c := (sel [1, 1, 0, 1, 4, 4, 1, 1] rcM)) (S := fun a w => (0 ≤ k ∧ k < 6) ∧ ∃ (v3 : Value) (L : List ScD), (LeI k L.length) ∧ (ScO B (b + 8 * (k : Int).toNat) w0 v3 L w ∧ RHd 9 B w.heap.size w 6 (.slice (some ⟨w0.heap.size, 0, none⟩) 6 6) (cellsOf encSt nmL)) ∧ Fr 31 [(0, .pointer (some ⟨B, 0, none⟩)), (3, v3), (6, .slice (some ⟨w0.heap.size, 0, none⟩) 6 6), (7, .int .i64 6), (8, .int .i64 k)] a) ?_ (T3.seq (s := (sel [1, 1, 0, 1, 4, 4, 1, 1, 0] rcM)) (c := (sel [1, 1, 0, 1, 4, 4, 1, 1, 1] rcM)) (S := fun a w => (0 ≤ k ∧ k < 6) ∧ ∃ (v3 : Value) (L : List ScD), (LeI (k + 1) L.length) ∧ (ScO B (b + 8 * ((k + 1) : Int).toNat) w0 v3 L w ∧ RHd 9 B w.heap.size w 6 (.slice (some ⟨w0.heap.size, 0, none⟩) 6 6) (cellsOf encSt nmL)) ∧ Fr 31 [(0, .pointer (some ⟨B, 0, none⟩)), (3, v3), (6, .slice (some ⟨w0.heap.size, 0, none⟩) 6 6), (7, .int .i64 6), (8, .int .i64 k)] a) (T3.noX (T3.mono (R' := fun a w => (0 ≤ k ∧ k < 6) ∧ ∃ (v3 : Value) (L : List ScD), (LeI k L.length) ∧ (ScO B (b + 8 * (k : Int).toNat) w0 v3 L w ∧ RHd 9 B w.heap.size w 6 (.slice (some ⟨w0.heap.size, 0, none⟩) 6 6) (cellsOf encSt nmL)) ∧ Fr 31 [(0, .pointer (some ⟨B, 0, none⟩)), (3, v3), (6, .slice (some ⟨w0.heap.size, 0, none⟩) 6 6), (7, .int .i64 6), (8, .int .i64 k)] a) (S' := fun a w => (0 ≤ k ∧ k < 6) ∧ ∃ (v3 : Value) (L : List ScD), (LeI (k + 1) L.length) ∧ (ScO B (b + 8 * ((k + 1) : Int).toNat) w0 v3 L w ∧ RHd 9 B w.heap.size w 6 (.slice (some ⟨w0.heap.size, 0, none⟩) 6 6) (cellsOf encSt nmL)) ∧ Fr 31 [(0, .pointer (some ⟨B, 0, none⟩)), (3, v3), (6, .slice (some ⟨w0.heap.size, 0, none⟩) 6 6), (7, .int .i64 6), (8, .int .i64 k)] a) (rcb B b w0 hb k) (fun a w ⟨hk, v3, L, hp, hI⟩ => ⟨v3, L, ⟨hk, hp⟩, hI⟩) (fun a w ⟨v3, L, ⟨hk, hp⟩, hI⟩ => ⟨hk, v3, L, hp, hI⟩) (fun _ _ q => q) (fun _ _ q => q))) ?_)
  · refine T3.cond (o := .tmp 9) (x := .skip) (y := .exit 0) (fun a w => k < 6 ∧ rcAI B b w0 hb k a w) (fun a w => ¬ k < 6 ∧ rcAI B b w0 hb k a w) ?_ (T3.skip ?_) (T3.exit ?_)
    · rintro a w ⟨q, hF, hq, hI⟩
      have he := hF.eval 9 (by decide) (v := .bool q) (by simp)
      cases q
      · exact .inr ⟨he, (fun h => by have := hq.2 h; cases this), hI⟩
      · exact .inl ⟨he, hq.1 rfl, hI⟩
    · rintro a w ⟨hlt, hk, hI⟩
      exact ⟨⟨hk.1, hlt⟩, hI⟩
    · rintro a w ⟨hlt, hk, hI⟩
      obtain rfl : k = 6 := by omega
      obtain ⟨v3, L, hl, hW, hF⟩ := hI
      exact ⟨v3, L, by have := hl.h; omega, hW.1.mono (by omega), hF.sub (by simp)⟩
  · intro a w hx
    have hk := hx.1
    exact (((rcAn B b w0 hb k).noX).post (fun a w q => ⟨ng_ - 1, by omega, k + 1, by omega, q⟩)) a w hx
set_option maxRecDepth 100000 in
set_option maxHeartbeats 1000000 in
theorem rc8 (B b : Nat) (w0 : World) (v3 : Value) (L : List ScD) : T3 Try.prog (fun a w => (ScO B (b + 48) w0 v3 L w) ∧ Fr 31 [(3, v3)] a) (sel [1, 1, 1, 0] rcM) (fun a w => (ScO B (b + 48) w0 v3 L w) ∧ Fr 31 [(2, v3)] a) No 9 No := by
  refine T3.leaf ?_
  rintro Q JS JX JT K hS hK hX hE hT hR a w ⟨hW, ⟨fr, rfl, q3, _⟩⟩
  have HW := Lib.hid hW
  obtain ⟨p3, c3, hv3⟩ := (Row.of_owns hW.o).shape
  subst hv3
  clear hW
  rw [fr_rcM, show fr 3 = _ from q3]
  clear q3
  conv => arg 2; whnf
  go_wp2_with fail
  refine Met.intro (hS _ _ ?_)
  exact ⟨HW.out, Fr.of _ rfl ⟨rfl, trivial⟩⟩

set_option maxRecDepth 100000 in
set_option maxHeartbeats 1000000 in
theorem rc_all (B b : Nat) (w0 : World) (hb : b ≤ 50000) : T3 Try.prog (fun a w => (Str B w b ∧ IsW w0 w) ∧ Fr 31 [(0, .pointer (some ⟨B, 0, none⟩))] a) rcM No No 9 (fun a w => ∃ (v3 : Value) (L : List ScD), (L.length ≤ 6) ∧ (ScO B (b + 48) w0 v3 L w) ∧ Fr 31 [(2, v3)] a) := by
  refine T3.seq (s := (sel [0] rcM)) (c := (sel [1] rcM)) (T3.noT (rc0 B b w0 hb)) ?_
  refine T3.seq (s := (sel [1, 0] rcM)) (c := (sel [1, 1] rcM)) (T3.noT (rc1 B b w0 hb)) ?_
  refine T3.seq (s := (sel [1, 1, 0] rcM)) (c := (sel [1, 1, 1] rcM)) (T3.noT (T3.seq (s := (sel [1, 1, 0, 0] rcM)) (c := (sel [1, 1, 0, 1] rcM)) (rc2 B b w0 hb) (rcAloop B b w0 hb))) ?_
  refine T3.ex fun v3 => T3.ex fun L => T3.pure fun hn => ?_
  exact T3.seq (s := (sel [1, 1, 1, 0] rcM)) (c := .ret) (T3.noT (rc8 B b w0 v3 L)) (T3.ret fun a w q => ⟨v3, L, hn, q⟩)

set_option maxRecDepth 100000 in
set_option maxHeartbeats 1000000 in
theorem rightScorers_any (B b : Nat) (w0 : World) (hS : Str B w0 b) (hb : b ≤ 50000) : Calls Try.prog 26 #[.pointer (some ⟨B, 0, none⟩)] w0 fun e w' => ∃ (v3 : Value) (L : List ScD), e = .returned v3 ∧ L.length ≤ 6 ∧ ScO B (b + 48) w0 v3 L w' := by
  have hall := rc_all B b w0 hb
  go_enter Try.func26, Try.ntmps26
  refine T3.done (s := rcM) hall ⟨⟨hS, rfl⟩, Fr.of _ rfl ⟨rfl, trivial⟩⟩ ?_
  rintro a w ⟨v3, L, hn, hW, fr, rfl, q2, _⟩
  rw [fr_rcM, show fr 2 = _ from q2]
  go_ret
  exact ⟨v3, L, rfl, hn, hW⟩
end Go.Proofs.Ytnmdpphddimfbaa
/-
  Line-ups: is there one among many that a function likes, and where (the library's IndexFunc, ContainsFunc). Conditions: at most 1000000 elements; the function only reads.
-/
set_option linter.unusedVariables false
namespace Go.Proofs.Ytnmdpphddimfbaa
open Go.RowKit Go.Bw
set_option maxRecDepth 100000 in
set_option maxHeartbeats 1000000 in
theorem idx_sl (Fn : Nat) (hF : ∀ args w, (callFunc Fn args).run Try.prog w = .ok (.enter Fn args) w) (c : Value) (v : Value) (l : List SlD) (p : SlD → Bool) (base : Nat) (w : World) (h : Row w base 2 v l.length (cellsOf encSl l)) (hn : l.length ≤ 1000000)
    (hp : ∀ x ∈ l, ∀ w1, Below w.heap.size w w1 → Calls Try.prog Fn #[.agg #[.string x.key, x.pv], c] w1 fun e w2 => e = .returned (.bool (p x)) ∧ Below w1.heap.size w1 w2) :
    Calls Try.prog 59 #[v, .func (.func Fn) #[] #[c]] w fun e w' => e = .returned (.int .i64 (idxI l p)) ∧ Below w.heap.size w w' := by
  obtain ⟨q, d, hv⟩ := h.shape
  subst hv
  have HH := Lib.hid h
  clear h
  have HP := Lib.hid hp
  clear hp
  go_enter Try.func59, Try.ntmps59
  go_wp2_with fail
  go_loopw [8] (fun i wr => ∃ k : Int, 0 ≤ k ∧ k ≤ l.length ∧ i = .int .i64 k ∧ Hid (∀ j : Int, 0 ≤ j → j < k → p (geta l j) = false) ∧ Below w.heap.size w wr) (fun i _ => l.length - (intOf i).toNat)
  case atStart => exact ⟨0, by omega, by omega, rfl, Lib.hid fun j h0 h1 => by omega, Below.refl _ _⟩
  case round =>
    obtain ⟨k, hk0, hk1, rfl, hz, hbel⟩ := hrel
    by_cases hlt : k < l.length
    · obtain ⟨_, hc⟩ := (HH.out.below hbel).els encSl_length (by decide)
      rcases hc with ⟨hv, h0⟩ | ⟨b, off, cap, hv, _, hbs, hnc, hcm, hcell⟩
      · omega
      simp only [Value.slice.injEq] at hv
      obtain ⟨rfl, _, rfl⟩ := hv
      have c0 := hcell k hk0 hlt 0 _ rfl
      have c1 := hcell k hk0 hlt 1 _ rfl
      rw [Nat.add_zero] at c0
      clear hcell
      have H1 := Lib.hid (HP.out _ (geta_mem hk0 hlt) wr hbel)
      have HB := Lib.hid hbel
      clear hbel
      cases hx : p (geta l k)
      · have HZ := Lib.hid (show ∀ j : Int, 0 ≤ j → j < k + 1 → p (geta l j) = false from fun j h0 h1 => by
          by_cases hj : j = k
          · rw [hj]; exact hx
          · exact hz.out j h0 (by omega))
        rw [hx] at H1
        clear hx
        generalize geta l k = x at *
        go_wp2_with fail
        refine H1.out.mono ?_
        rintro e w1 ⟨rfl, hb1⟩
        have HB1 := Lib.hid (HB.out.trans (hb1.mono HB.out.size))
        clear hb1
        go_wp2_with fail
        go_roundw
        case rel => exact ⟨k + 1, by omega, by omega, rfl, HZ, HB1.out⟩
        case measure => simp [intOf]; omega
      · have HE := Lib.hid (idxI_hit hk0 hlt hz.out hx)
        rw [hx] at H1
        clear hx
        generalize geta l k = x at *
        go_wp2_with fail
        refine H1.out.mono ?_
        rintro e w1 ⟨rfl, hb1⟩
        have HB1 := Lib.hid (HB.out.trans (hb1.mono HB.out.size))
        clear hb1
        go_wp2_with fail
        go_ret
        exact ⟨ret_int HE.out.symm, HB1.out⟩
    · have HE := Lib.hid (idxI_none (l := l) (p := p) fun j h0 h1 => hz.out j h0 (by omega))
      have HB := Lib.hid hbel
      clear hbel
      go_wp2_with fail
      go_ret
      exact ⟨ret_int HE.out.symm, HB.out⟩
set_option maxRecDepth 100000 in
set_option maxHeartbeats 1000000 in
theorem any_sl (Fn : Nat) (hF : ∀ args w, (callFunc Fn args).run Try.prog w = .ok (.enter Fn args) w) (c : Value) (v : Value) (l : List SlD) (p : SlD → Bool) (base : Nat) (w : World) (h : Row w base 2 v l.length (cellsOf encSl l)) (hn : l.length ≤ 1000000)
    (hp : ∀ x ∈ l, ∀ w1, Below w.heap.size w w1 → Calls Try.prog Fn #[.agg #[.string x.key, x.pv], c] w1 fun e w2 => e = .returned (.bool (p x)) ∧ Below w1.heap.size w1 w2) :
    Calls Try.prog 33 #[v, .func (.func Fn) #[] #[c]] w fun e w' => e = .returned (.bool (l.any p)) ∧ Below w.heap.size w w' := by
  have H1 := Lib.hid (idx_sl Fn hF c v l p base w h hn hp)
  have HA := Lib.hid (idxI_any l p)
  obtain ⟨q, d, hv⟩ := h.shape
  clear h hp
  subst hv
  generalize idxI l p = r at *
  generalize l.any p = b at *
  go_enter Try.func33, Try.ntmps33
  go_wp2_with fail
  refine H1.out.mono ?_
  rintro e w1 ⟨rfl, hb1⟩
  have HB := Lib.hid hb1
  clear hb1
  go_wp2_with fail
  go_ret
  exact ⟨ret_bool HA.out, HB.out⟩
set_option maxRecDepth 100000 in
set_option maxHeartbeats 1000000 in
theorem idx_fl (Fn : Nat) (hF : ∀ args w, (callFunc Fn args).run Try.prog w = .ok (.enter Fn args) w) (c : Value) (v : Value) (l : List FlD) (p : FlD → Bool) (base : Nat) (w : World) (h : Row w base 2 v l.length (cellsOf encFl l)) (hn : l.length ≤ 1000000)
    (hp : ∀ x ∈ l, ∀ w1, Below w.heap.size w w1 → Calls Try.prog Fn #[.agg #[.string x.sl, .string x.pl], c] w1 fun e w2 => e = .returned (.bool (p x)) ∧ Below w1.heap.size w1 w2) :
    Calls Try.prog 41 #[v, .func (.func Fn) #[] #[c]] w fun e w' => e = .returned (.int .i64 (idxI l p)) ∧ Below w.heap.size w w' := by
  obtain ⟨q, d, hv⟩ := h.shape
  subst hv
  have HH := Lib.hid h
  clear h
  have HP := Lib.hid hp
  clear hp
  go_enter Try.func41, Try.ntmps41
  go_wp2_with fail
  go_loopw [8] (fun i wr => ∃ k : Int, 0 ≤ k ∧ k ≤ l.length ∧ i = .int .i64 k ∧ Hid (∀ j : Int, 0 ≤ j → j < k → p (geta l j) = false) ∧ Below w.heap.size w wr) (fun i _ => l.length - (intOf i).toNat)
  case atStart => exact ⟨0, by omega, by omega, rfl, Lib.hid fun j h0 h1 => by omega, Below.refl _ _⟩
  case round =>
    obtain ⟨k, hk0, hk1, rfl, hz, hbel⟩ := hrel
    by_cases hlt : k < l.length
    · obtain ⟨_, hc⟩ := (HH.out.below hbel).els encFl_length (by decide)
      rcases hc with ⟨hv, h0⟩ | ⟨b, off, cap, hv, _, hbs, hnc, hcm, hcell⟩
      · omega
      simp only [Value.slice.injEq] at hv
      obtain ⟨rfl, _, rfl⟩ := hv
      have c0 := hcell k hk0 hlt 0 _ rfl
      have c1 := hcell k hk0 hlt 1 _ rfl
      rw [Nat.add_zero] at c0
      clear hcell
      have H1 := Lib.hid (HP.out _ (geta_mem hk0 hlt) wr hbel)
      have HB := Lib.hid hbel
      clear hbel
      cases hx : p (geta l k)
      · have HZ := Lib.hid (show ∀ j : Int, 0 ≤ j → j < k + 1 → p (geta l j) = false from fun j h0 h1 => by
          by_cases hj : j = k
          · rw [hj]; exact hx
          · exact hz.out j h0 (by omega))
        rw [hx] at H1
        clear hx
        generalize geta l k = x at *
        go_wp2_with fail
        refine H1.out.mono ?_
        rintro e w1 ⟨rfl, hb1⟩
        have HB1 := Lib.hid (HB.out.trans (hb1.mono HB.out.size))
        clear hb1
        go_wp2_with fail
        go_roundw
        case rel => exact ⟨k + 1, by omega, by omega, rfl, HZ, HB1.out⟩
        case measure => simp [intOf]; omega
      · have HE := Lib.hid (idxI_hit hk0 hlt hz.out hx)
        rw [hx] at H1
        clear hx
        generalize geta l k = x at *
        go_wp2_with fail
        refine H1.out.mono ?_
        rintro e w1 ⟨rfl, hb1⟩
        have HB1 := Lib.hid (HB.out.trans (hb1.mono HB.out.size))
        clear hb1
        go_wp2_with fail
        go_ret
        exact ⟨ret_int HE.out.symm, HB1.out⟩
    · have HE := Lib.hid (idxI_none (l := l) (p := p) fun j h0 h1 => hz.out j h0 (by omega))
      have HB := Lib.hid hbel
      clear hbel
      go_wp2_with fail
      go_ret
      exact ⟨ret_int HE.out.symm, HB.out⟩
set_option maxRecDepth 100000 in
set_option maxHeartbeats 1000000 in
theorem any_fl (Fn : Nat) (hF : ∀ args w, (callFunc Fn args).run Try.prog w = .ok (.enter Fn args) w) (c : Value) (v : Value) (l : List FlD) (p : FlD → Bool) (base : Nat) (w : World) (h : Row w base 2 v l.length (cellsOf encFl l)) (hn : l.length ≤ 1000000)
    (hp : ∀ x ∈ l, ∀ w1, Below w.heap.size w w1 → Calls Try.prog Fn #[.agg #[.string x.sl, .string x.pl], c] w1 fun e w2 => e = .returned (.bool (p x)) ∧ Below w1.heap.size w1 w2) :
    Calls Try.prog 14 #[v, .func (.func Fn) #[] #[c]] w fun e w' => e = .returned (.bool (l.any p)) ∧ Below w.heap.size w w' := by
  have H1 := Lib.hid (idx_fl Fn hF c v l p base w h hn hp)
  have HA := Lib.hid (idxI_any l p)
  obtain ⟨q, d, hv⟩ := h.shape
  clear h hp
  subst hv
  generalize idxI l p = r at *
  generalize l.any p = b at *
  go_enter Try.func14, Try.ntmps14
  go_wp2_with fail
  refine H1.out.mono ?_
  rintro e w1 ⟨rfl, hb1⟩
  have HB := Lib.hid hb1
  clear hb1
  go_wp2_with fail
  go_ret
  exact ⟨ret_bool HA.out, HB.out⟩
set_option maxRecDepth 100000 in
set_option maxHeartbeats 1000000 in
theorem idx_sc (Fn : Nat) (hF : ∀ args w, (callFunc Fn args).run Try.prog w = .ok (.enter Fn args) w) (c : Value) (v : Value) (l : List ScD) (p : ScD → Bool) (base : Nat) (w : World) (h : Row w base 5 v l.length (cellsOf encSc l)) (hn : l.length ≤ 1000000)
    (hp : ∀ x ∈ l, ∀ w1, Below w.heap.size w w1 → Calls Try.prog Fn #[.agg #[.string x.pl, x.pv, .int .i64 x.num, .int .i64 x.den, .bool x.pd], c] w1 fun e w2 => e = .returned (.bool (p x)) ∧ Below w1.heap.size w1 w2) :
    Calls Try.prog 62 #[v, .func (.func Fn) #[] #[c]] w fun e w' => e = .returned (.int .i64 (idxI l p)) ∧ Below w.heap.size w w' := by
  obtain ⟨q, d, hv⟩ := h.shape
  subst hv
  have HH := Lib.hid h
  clear h
  have HP := Lib.hid hp
  clear hp
  go_enter Try.func62, Try.ntmps62
  go_wp2_with fail
  go_loopw [8] (fun i wr => ∃ k : Int, 0 ≤ k ∧ k ≤ l.length ∧ i = .int .i64 k ∧ Hid (∀ j : Int, 0 ≤ j → j < k → p (geta l j) = false) ∧ Below w.heap.size w wr) (fun i _ => l.length - (intOf i).toNat)
  case atStart => exact ⟨0, by omega, by omega, rfl, Lib.hid fun j h0 h1 => by omega, Below.refl _ _⟩
  case round =>
    obtain ⟨k, hk0, hk1, rfl, hz, hbel⟩ := hrel
    by_cases hlt : k < l.length
    · obtain ⟨_, hc⟩ := (HH.out.below hbel).els encSc_length (by decide)
      rcases hc with ⟨hv, h0⟩ | ⟨b, off, cap, hv, _, hbs, hnc, hcm, hcell⟩
      · omega
      simp only [Value.slice.injEq] at hv
      obtain ⟨rfl, _, rfl⟩ := hv
      have c0 := hcell k hk0 hlt 0 _ rfl
      have c1 := hcell k hk0 hlt 1 _ rfl
      have c2 := hcell k hk0 hlt 2 _ rfl
      have c3 := hcell k hk0 hlt 3 _ rfl
      have c4 := hcell k hk0 hlt 4 _ rfl
      rw [Nat.add_zero] at c0
      clear hcell
      have H1 := Lib.hid (HP.out _ (geta_mem hk0 hlt) wr hbel)
      have HB := Lib.hid hbel
      clear hbel
      cases hx : p (geta l k)
      · have HZ := Lib.hid (show ∀ j : Int, 0 ≤ j → j < k + 1 → p (geta l j) = false from fun j h0 h1 => by
          by_cases hj : j = k
          · rw [hj]; exact hx
          · exact hz.out j h0 (by omega))
        rw [hx] at H1
        clear hx
        generalize geta l k = x at *
        go_wp2_with fail
        refine H1.out.mono ?_
        rintro e w1 ⟨rfl, hb1⟩
        have HB1 := Lib.hid (HB.out.trans (hb1.mono HB.out.size))
        clear hb1
        go_wp2_with fail
        go_roundw
        case rel => exact ⟨k + 1, by omega, by omega, rfl, HZ, HB1.out⟩
        case measure => simp [intOf]; omega
      · have HE := Lib.hid (idxI_hit hk0 hlt hz.out hx)
        rw [hx] at H1
        clear hx
        generalize geta l k = x at *
        go_wp2_with fail
        refine H1.out.mono ?_
        rintro e w1 ⟨rfl, hb1⟩
        have HB1 := Lib.hid (HB.out.trans (hb1.mono HB.out.size))
        clear hb1
        go_wp2_with fail
        go_ret
        exact ⟨ret_int HE.out.symm, HB1.out⟩
    · have HE := Lib.hid (idxI_none (l := l) (p := p) fun j h0 h1 => hz.out j h0 (by omega))
      have HB := Lib.hid hbel
      clear hbel
      go_wp2_with fail
      go_ret
      exact ⟨ret_int HE.out.symm, HB.out⟩
set_option maxRecDepth 100000 in
set_option maxHeartbeats 1000000 in
theorem idx_st (Fn : Nat) (hF : ∀ args w, (callFunc Fn args).run Try.prog w = .ok (.enter Fn args) w) (c : Value) (v : Value) (l : List ByteArray) (p : ByteArray → Bool) (base : Nat) (w : World) (h : Row w base 1 v l.length (cellsOf encSt l)) (hn : l.length ≤ 1000000)
    (hp : ∀ x ∈ l, ∀ w1, Below w.heap.size w w1 → Calls Try.prog Fn #[.string x, c] w1 fun e w2 => e = .returned (.bool (p x)) ∧ Below w1.heap.size w1 w2) :
    Calls Try.prog 40 #[v, .func (.func Fn) #[] #[c]] w fun e w' => e = .returned (.int .i64 (idxI l p)) ∧ Below w.heap.size w w' := by
  obtain ⟨q, d, hv⟩ := h.shape
  subst hv
  have HH := Lib.hid h
  clear h
  have HP := Lib.hid hp
  clear hp
  go_enter Try.func40, Try.ntmps40
  go_wp2_with fail
  go_loopw [8] (fun i wr => ∃ k : Int, 0 ≤ k ∧ k ≤ l.length ∧ i = .int .i64 k ∧ Hid (∀ j : Int, 0 ≤ j → j < k → p (geta l j) = false) ∧ Below w.heap.size w wr) (fun i _ => l.length - (intOf i).toNat)
  case atStart => exact ⟨0, by omega, by omega, rfl, Lib.hid fun j h0 h1 => by omega, Below.refl _ _⟩
  case round =>
    obtain ⟨k, hk0, hk1, rfl, hz, hbel⟩ := hrel
    by_cases hlt : k < l.length
    · obtain ⟨_, hc⟩ := (HH.out.below hbel).els encSt_length (by decide)
      rcases hc with ⟨hv, h0⟩ | ⟨b, off, cap, hv, _, hbs, hnc, hcm, hcell⟩
      · omega
      simp only [Value.slice.injEq] at hv
      obtain ⟨rfl, _, rfl⟩ := hv
      have c0 := hcell k hk0 hlt 0 _ rfl
      rw [Nat.add_zero] at c0
      rw [Nat.mul_one] at c0
      clear hcell
      have H1 := Lib.hid (HP.out _ (geta_mem hk0 hlt) wr hbel)
      have HB := Lib.hid hbel
      clear hbel
      cases hx : p (geta l k)
      · have HZ := Lib.hid (show ∀ j : Int, 0 ≤ j → j < k + 1 → p (geta l j) = false from fun j h0 h1 => by
          by_cases hj : j = k
          · rw [hj]; exact hx
          · exact hz.out j h0 (by omega))
        rw [hx] at H1
        clear hx
        generalize geta l k = x at *
        go_wp2_with fail
        refine H1.out.mono ?_
        rintro e w1 ⟨rfl, hb1⟩
        have HB1 := Lib.hid (HB.out.trans (hb1.mono HB.out.size))
        clear hb1
        go_wp2_with fail
        go_roundw
        case rel => exact ⟨k + 1, by omega, by omega, rfl, HZ, HB1.out⟩
        case measure => simp [intOf]; omega
      · have HE := Lib.hid (idxI_hit hk0 hlt hz.out hx)
        rw [hx] at H1
        clear hx
        generalize geta l k = x at *
        go_wp2_with fail
        refine H1.out.mono ?_
        rintro e w1 ⟨rfl, hb1⟩
        have HB1 := Lib.hid (HB.out.trans (hb1.mono HB.out.size))
        clear hb1
        go_wp2_with fail
        go_ret
        exact ⟨ret_int HE.out.symm, HB1.out⟩
    · have HE := Lib.hid (idxI_none (l := l) (p := p) fun j h0 h1 => hz.out j h0 (by omega))
      have HB := Lib.hid hbel
      clear hbel
      go_wp2_with fail
      go_ret
      exact ⟨ret_int HE.out.symm, HB.out⟩
set_option maxRecDepth 100000 in
set_option maxHeartbeats 1000000 in
theorem any_st (Fn : Nat) (hF : ∀ args w, (callFunc Fn args).run Try.prog w = .ok (.enter Fn args) w) (c : Value) (v : Value) (l : List ByteArray) (p : ByteArray → Bool) (base : Nat) (w : World) (h : Row w base 1 v l.length (cellsOf encSt l)) (hn : l.length ≤ 1000000)
    (hp : ∀ x ∈ l, ∀ w1, Below w.heap.size w w1 → Calls Try.prog Fn #[.string x, c] w1 fun e w2 => e = .returned (.bool (p x)) ∧ Below w1.heap.size w1 w2) :
    Calls Try.prog 29 #[v, .func (.func Fn) #[] #[c]] w fun e w' => e = .returned (.bool (l.any p)) ∧ Below w.heap.size w w' := by
  have H1 := Lib.hid (idx_st Fn hF c v l p base w h hn hp)
  have HA := Lib.hid (idxI_any l p)
  obtain ⟨q, d, hv⟩ := h.shape
  clear h hp
  subst hv
  generalize idxI l p = r at *
  generalize l.any p = b at *
  go_enter Try.func29, Try.ntmps29
  go_wp2_with fail
  refine H1.out.mono ?_
  rintro e w1 ⟨rfl, hb1⟩
  have HB := Lib.hid hb1
  clear hb1
  go_wp2_with fail
  go_ret
  exact ⟨ret_bool HA.out, HB.out⟩
set_option maxRecDepth 100000 in
set_option maxHeartbeats 1000000 in
theorem idx_st2 (Fn : Nat) (hF : ∀ args w, (callFunc Fn args).run Try.prog w = .ok (.enter Fn args) w) (c c2 : Value) (v : Value) (l : List ByteArray) (p : ByteArray → Bool) (base : Nat) (w : World) (h : Row w base 1 v l.length (cellsOf encSt l)) (hn : l.length ≤ 1000000)
    (hp : ∀ x ∈ l, ∀ w1, Below w.heap.size w w1 → Calls Try.prog Fn #[.string x, c, c2] w1 fun e w2 => e = .returned (.bool (p x)) ∧ Below w1.heap.size w1 w2) :
    Calls Try.prog 40 #[v, .func (.func Fn) #[] #[c, c2]] w fun e w' => e = .returned (.int .i64 (idxI l p)) ∧ Below w.heap.size w w' := by
  obtain ⟨q, d, hv⟩ := h.shape
  subst hv
  have HH := Lib.hid h
  clear h
  have HP := Lib.hid hp
  clear hp
  go_enter Try.func40, Try.ntmps40
  go_wp2_with fail
  go_loopw [8] (fun i wr => ∃ k : Int, 0 ≤ k ∧ k ≤ l.length ∧ i = .int .i64 k ∧ Hid (∀ j : Int, 0 ≤ j → j < k → p (geta l j) = false) ∧ Below w.heap.size w wr) (fun i _ => l.length - (intOf i).toNat)
  case atStart => exact ⟨0, by omega, by omega, rfl, Lib.hid fun j h0 h1 => by omega, Below.refl _ _⟩
  case round =>
    obtain ⟨k, hk0, hk1, rfl, hz, hbel⟩ := hrel
    by_cases hlt : k < l.length
    · obtain ⟨_, hc⟩ := (HH.out.below hbel).els encSt_length (by decide)
      rcases hc with ⟨hv, h0⟩ | ⟨b, off, cap, hv, _, hbs, hnc, hcm, hcell⟩
      · omega
      simp only [Value.slice.injEq] at hv
      obtain ⟨rfl, _, rfl⟩ := hv
      have c0 := hcell k hk0 hlt 0 _ rfl
      rw [Nat.add_zero] at c0
      rw [Nat.mul_one] at c0
      clear hcell
      have H1 := Lib.hid (HP.out _ (geta_mem hk0 hlt) wr hbel)
      have HB := Lib.hid hbel
      clear hbel
      cases hx : p (geta l k)
      · have HZ := Lib.hid (show ∀ j : Int, 0 ≤ j → j < k + 1 → p (geta l j) = false from fun j h0 h1 => by
          by_cases hj : j = k
          · rw [hj]; exact hx
          · exact hz.out j h0 (by omega))
        rw [hx] at H1
        clear hx
        generalize geta l k = x at *
        go_wp2_with fail
        refine H1.out.mono ?_
        rintro e w1 ⟨rfl, hb1⟩
        have HB1 := Lib.hid (HB.out.trans (hb1.mono HB.out.size))
        clear hb1
        go_wp2_with fail
        go_roundw
        case rel => exact ⟨k + 1, by omega, by omega, rfl, HZ, HB1.out⟩
        case measure => simp [intOf]; omega
      · have HE := Lib.hid (idxI_hit hk0 hlt hz.out hx)
        rw [hx] at H1
        clear hx
        generalize geta l k = x at *
        go_wp2_with fail
        refine H1.out.mono ?_
        rintro e w1 ⟨rfl, hb1⟩
        have HB1 := Lib.hid (HB.out.trans (hb1.mono HB.out.size))
        clear hb1
        go_wp2_with fail
        go_ret
        exact ⟨ret_int HE.out.symm, HB1.out⟩
    · have HE := Lib.hid (idxI_none (l := l) (p := p) fun j h0 h1 => hz.out j h0 (by omega))
      have HB := Lib.hid hbel
      clear hbel
      go_wp2_with fail
      go_ret
      exact ⟨ret_int HE.out.symm, HB.out⟩
set_option maxRecDepth 100000 in
set_option maxHeartbeats 1000000 in
theorem any_st2 (Fn : Nat) (hF : ∀ args w, (callFunc Fn args).run Try.prog w = .ok (.enter Fn args) w) (c c2 : Value) (v : Value) (l : List ByteArray) (p : ByteArray → Bool) (base : Nat) (w : World) (h : Row w base 1 v l.length (cellsOf encSt l)) (hn : l.length ≤ 1000000)
    (hp : ∀ x ∈ l, ∀ w1, Below w.heap.size w w1 → Calls Try.prog Fn #[.string x, c, c2] w1 fun e w2 => e = .returned (.bool (p x)) ∧ Below w1.heap.size w1 w2) :
    Calls Try.prog 29 #[v, .func (.func Fn) #[] #[c, c2]] w fun e w' => e = .returned (.bool (l.any p)) ∧ Below w.heap.size w w' := by
  have H1 := Lib.hid (idx_st2 Fn hF c c2 v l p base w h hn hp)
  have HA := Lib.hid (idxI_any l p)
  obtain ⟨q, d, hv⟩ := h.shape
  clear h hp
  subst hv
  generalize idxI l p = r at *
  generalize l.any p = b at *
  go_enter Try.func29, Try.ntmps29
  go_wp2_with fail
  refine H1.out.mono ?_
  rintro e w1 ⟨rfl, hb1⟩
  have HB := Lib.hid hb1
  clear hb1
  go_wp2_with fail
  go_ret
  exact ⟨ret_bool HA.out, HB.out⟩
end Go.Proofs.Ytnmdpphddimfbaa
/-
  Line-ups: the order of scorers, and where one of them must be, plain. No condition on a program.
-/
set_option linter.unusedVariables false
namespace Go.Bw
open Go.RowKit
theorem u8_lt {a b : UInt8} : a < b ↔ a.toNat < b.toNat := UInt8.lt_iff_toNat_lt
theorem u8_eq {a b : UInt8} (h : ¬ a < b) (h' : ¬ b < a) : a = b := by
  rw [u8_lt] at h h'
  exact UInt8.toNat_inj.1 (by omega)
theorem cmp_lt : ∀ x y : List UInt8, Lib.compareBytes x y < 0 ↔ x < y
  | [], [] => by simp [Lib.compareBytes]
  | [], b :: m => by simp [Lib.compareBytes]
  | a :: l, [] => by simp [Lib.compareBytes]
  | a :: l, b :: m => by
    have ih := cmp_lt l m
    rw [List.cons_lt_cons_iff]
    unfold Lib.compareBytes
    by_cases h : a < b
    · simp [h]
    · by_cases h' : b < a
      · rw [if_neg h, if_pos h']
        have hne : a ≠ b := fun e => h (by rw [e] at h' ⊢; exact h')
        simp [h, hne]
      · rw [if_neg h, if_neg h', ih]
        have := u8_eq h h'
        simp [h, this]
theorem cmp_eq : ∀ x y : List UInt8, Lib.compareBytes x y = 0 ↔ x = y
  | [], [] => by simp [Lib.compareBytes]
  | [], b :: m => by simp [Lib.compareBytes]
  | a :: l, [] => by simp [Lib.compareBytes]
  | a :: l, b :: m => by
    have ih := cmp_eq l m
    unfold Lib.compareBytes
    by_cases h : a < b
    · have hne : a ≠ b := fun e => by rw [e, u8_lt] at h; omega
      simp [h, hne]
    · by_cases h' : b < a
      · have hne : a ≠ b := fun e => by rw [e, u8_lt] at h'; omega
        simp [h, h', hne]
      · rw [if_neg h, if_neg h', ih]
        have := u8_eq h h'
        simp [this]
theorem leB_not {x y : ByteArray} (h : leB x y = false) : y.toList < x.toList := by
  unfold leB at h
  rw [Go.Proofs.bytesLess_eq, Bool.or_eq_false_iff] at h
  obtain ⟨h1, h2⟩ := h
  have h1 := of_decide_eq_false h1
  have h2 : x.toList ≠ y.toList := by simpa using h2
  have h3 : ¬ Lib.compareBytes x.toList y.toList < 0 := fun e => h1 ((cmp_lt _ _).1 e)
  have h4 : Lib.compareBytes x.toList y.toList ≠ 0 := fun e => h2 ((cmp_eq _ _).1 e)
  have tri : ∀ a b : List UInt8, a < b ∨ a = b ∨ b < a := by
    intro a
    induction a with
    | nil => intro b; cases b with
      | nil => exact .inr (.inl rfl)
      | cons b m => exact .inl (by simp)
    | cons a l ih => intro b; cases b with
      | nil => exact .inr (.inr (by simp))
      | cons b m =>
        rw [List.cons_lt_cons_iff, List.cons_lt_cons_iff]
        by_cases h : a < b
        · exact .inl (.inl h)
        · by_cases h' : b < a
          · exact .inr (.inr (.inl h'))
          · have e := u8_eq h h'
            rcases ih m with q | q | q
            · exact .inl (.inr ⟨e, q⟩)
            · exact .inr (.inl (by rw [e, q]))
            · exact .inr (.inr (.inr ⟨e.symm, q⟩))
  rcases tri x.toList y.toList with q | q | q
  · exact absurd q h1
  · exact absurd q h2
  · exact q
end Go.Bw
namespace Go.Proofs.Ytnmdpphddimfbaa
open Go.RowKit Go.Bw
/-- The scorers rise. -/
structure ScRise (L : List ScD) : Prop where
  h : ∀ i j : Int, 0 ≤ i → i < j → j < L.length → (geta L i).pl.toList < (geta L j).pl.toList
theorem ScRise.of {L : List ScD} (h : ∀ k : Int, 0 < k → k < L.length → ordBad L k = false) : ScRise L := by
  refine ⟨fun i j h0 hij hj => ?_⟩
  have step : ∀ k : Int, 0 < k → k < L.length → (geta L (k - 1)).pl.toList < (geta L k).pl.toList := fun k hk hkl => by
    have := h k hk hkl
    unfold ordBad at this
    rw [Bool.and_eq_false_iff] at this
    rcases this with e | e
    · have := of_decide_eq_false e
      omega
    · exact leB_not e
  have key : ∀ (d : Nat) (j : Int), j = i + 1 + d → j < L.length → (geta L i).pl.toList < (geta L j).pl.toList := by
    intro d
    induction d with
    | zero =>
      intro j e hj
      have := step j (by omega) hj
      rwa [show j - 1 = i by omega] at this
    | succ d ih =>
      intro j e hj
      exact List.lt_trans (ih (j - 1) (by omega) (by omega)) (step j (by omega) hj)
  exact key (j - i - 1).toNat j (by omega) hj
/-- All before i are less than x, all from i on are not. -/
structure CutAt (L : List ScD) (x : ByteArray) (i j : Int) : Prop where
  i0 : 0 ≤ i
  ij : i ≤ j
  jn : j ≤ L.length
  lo : ∀ k : Int, 0 ≤ k → k < i → (geta L k).pl.toList < x.toList
  hi : ∀ k : Int, j ≤ k → k < L.length → ¬ (geta L k).pl.toList < x.toList
theorem CutAt.start (L : List ScD) (x : ByteArray) : CutAt L x 0 L.length := ⟨by omega, by omega, by omega, fun k h0 h1 => by omega, fun k h0 h1 => by omega⟩
theorem CutAt.up {L : List ScD} {x : ByteArray} {i j m : Int} (r : ScRise L) (h : CutAt L x i j) (h0 : i ≤ m) (h1 : m < j) (hm : (geta L m).pl.toList < x.toList) : CutAt L x (m + 1) j :=
  ⟨by have := h.i0; omega, by omega, h.jn, fun k a b => by
    by_cases e : k = m
    · rw [e]; exact hm
    · exact List.lt_trans (r.h k m a (by omega) (by have := h.jn; omega)) hm, h.hi⟩
theorem CutAt.down {L : List ScD} {x : ByteArray} {i j m : Int} (r : ScRise L) (h : CutAt L x i j) (h0 : i ≤ m) (h1 : m < j) (hm : ¬ (geta L m).pl.toList < x.toList) : CutAt L x i m :=
  ⟨h.i0, h0, by have := h.jn; omega, h.lo, fun k a b hlt => by
    by_cases e : k = m
    · rw [e] at hlt; exact hm hlt
    · exact hm (List.lt_trans (r.h m k (by have := h.i0; omega) (by omega) b) hlt)⟩
theorem bytes_inj {x y : ByteArray} (h : x.toList = y.toList) : x = y := by
  rw [ByteArray.toList_eq, ByteArray.toList_eq] at h
  cases x; cases y
  simp only [ByteArray.mk.injEq]
  exact Array.toList_inj.1 h
theorem CutAt.found {L : List ScD} {x : ByteArray} {i : Int} (h : CutAt L x i i) (hi : i < L.length) (he : (geta L i).pl = x) : scIdx L x = i := by
  refine idxI_hit h.i0 hi (fun k a b => ?_) (by simp [he])
  have := h.lo k a b
  simp only [decide_eq_false_iff_not]
  intro e
  rw [e] at this
  exact List.lt_irrefl _ this
theorem CutAt.none {L : List ScD} {x : ByteArray} {i : Int} (r : ScRise L) (h : CutAt L x i i) (he : i < L.length → (geta L i).pl ≠ x) : scIdx L x = -1 := by
  refine idxI_none fun k a b => ?_
  simp only [decide_eq_false_iff_not]
  intro e
  by_cases hk : k < i
  · have := h.lo k a hk
    rw [e] at this
    exact List.lt_irrefl _ this
  · by_cases hki : k = i
    · rw [hki] at e b
      exact he b e
    · have h1 := h.hi i (by omega) (by omega)
      have h2 := r.h i k h.i0 (by omega) b
      rw [e] at h2
      exact h1 h2
end Go.Proofs.Ytnmdpphddimfbaa
/-
  Line-ups: who is where, who fits (ScorerAt, isIn, fit, Common, Positions, ListFault). Conditions: at most 1000 elements; strings of at most 1000 bytes.
-/
set_option linter.unusedVariables false
namespace Go.Proofs.Ytnmdpphddimfbaa
open Go.RowKit Go.Bw
set_option maxRecDepth 100000 in
set_option maxHeartbeats 1000000 in
theorem cl_slF (a : ByteArray) (pv : Value) (x : ByteArray) (B : Nat) (w : World) (hB : w.cell? ⟨B, 0, none⟩ = some (.string x)) :
    Calls Try.prog 34 #[.agg #[.string a, pv], .pointer (some ⟨B, 0, none⟩)] w fun e w' => e = .returned (.bool (decide (a = x))) ∧ Below w.heap.size w w' := by
  have hlt := World.block_lt_of_cell? w _ hB
  have hw0 := (Below.refl w.heap.size w).alloc (Nat.le_refl _) (.cells #[.string a, pv] 55)
  have c1 := (hw0.cell (p := ⟨B, 0, none⟩) hlt).trans hB
  have d0 := cells_new w #[.string a, pv] 55 0 _ rfl
  have d1 := cells_new w #[.string a, pv] 55 1 _ rfl
  have HW := Lib.hid hw0
  clear hw0 hB
  by_cases hx : a = x
  · subst hx
    go_enter Try.func34, Try.ntmps34
    go_wp2_with fail
    go_ret
    exact ⟨ret_bool (by simp), HW.out⟩
  · have hx1 := toList_ne hx
    have HX := Lib.hid (show false = decide (a = x) by simp [hx])
    clear hx
    go_enter Try.func34, Try.ntmps34
    go_wp2_with fail
    go_ret
    exact ⟨ret_bool HX.out, HW.out⟩
set_option maxRecDepth 100000 in
set_option maxHeartbeats 1000000 in
theorem cl_slC (a : ByteArray) (pv : Value) (x : ByteArray) (B : Nat) (w : World) (hB : w.cell? ⟨B, 0, none⟩ = some (.string x)) :
    Calls Try.prog 80 #[.agg #[.string a, pv], .pointer (some ⟨B, 0, none⟩)] w fun e w' => e = .returned (.bool (decide (a = x))) ∧ Below w.heap.size w w' := by
  have hlt := World.block_lt_of_cell? w _ hB
  have hw0 := (Below.refl w.heap.size w).alloc (Nat.le_refl _) (.cells #[.string a, pv] 55)
  have c1 := (hw0.cell (p := ⟨B, 0, none⟩) hlt).trans hB
  have d0 := cells_new w #[.string a, pv] 55 0 _ rfl
  have d1 := cells_new w #[.string a, pv] 55 1 _ rfl
  have HW := Lib.hid hw0
  clear hw0 hB
  by_cases hx : a = x
  · subst hx
    go_enter Try.func80, Try.ntmps80
    go_wp2_with fail
    go_ret
    exact ⟨ret_bool (by simp), HW.out⟩
  · have hx1 := toList_ne hx
    have HX := Lib.hid (show false = decide (a = x) by simp [hx])
    clear hx
    go_enter Try.func80, Try.ntmps80
    go_wp2_with fail
    go_ret
    exact ⟨ret_bool HX.out, HW.out⟩
set_option maxRecDepth 100000 in
set_option maxHeartbeats 1000000 in
theorem cl_flF (s a : ByteArray) (x : ByteArray) (B : Nat) (w : World) (hB : w.cell? ⟨B, 1, none⟩ = some (.string x)) :
    Calls Try.prog 38 #[.agg #[.string s, .string a], .pointer (some ⟨B, 0, none⟩)] w fun e w' => e = .returned (.bool (decide (a = x))) ∧ Below w.heap.size w w' := by
  have hlt := World.block_lt_of_cell? w _ hB
  have hw0 := (Below.refl w.heap.size w).alloc (Nat.le_refl _) (.cells #[.string s, .string a] 42)
  have c1 := (hw0.cell (p := ⟨B, 1, none⟩) hlt).trans hB
  have d0 := cells_new w #[.string s, .string a] 42 0 _ rfl
  have d1 := cells_new w #[.string s, .string a] 42 1 _ rfl
  have HW := Lib.hid hw0
  clear hw0 hB
  by_cases hx : a = x
  · subst hx
    go_enter Try.func38, Try.ntmps38
    go_wp2_with fail
    go_ret
    exact ⟨ret_bool (by simp), HW.out⟩
  · have hx1 := toList_ne hx
    have HX := Lib.hid (show false = decide (a = x) by simp [hx])
    clear hx
    go_enter Try.func38, Try.ntmps38
    go_wp2_with fail
    go_ret
    exact ⟨ret_bool HX.out, HW.out⟩
set_option maxRecDepth 100000 in
set_option maxHeartbeats 1000000 in
theorem cl_flB (s a : ByteArray) (x : ByteArray) (B : Nat) (w : World) (hB : w.cell? ⟨B, 0, none⟩ = some (.string x)) :
    Calls Try.prog 48 #[.agg #[.string s, .string a], .pointer (some ⟨B, 0, none⟩)] w fun e w' => e = .returned (.bool (decide (a = x))) ∧ Below w.heap.size w w' := by
  have hlt := World.block_lt_of_cell? w _ hB
  have hw0 := (Below.refl w.heap.size w).alloc (Nat.le_refl _) (.cells #[.string s, .string a] 42)
  have c1 := (hw0.cell (p := ⟨B, 0, none⟩) hlt).trans hB
  have d0 := cells_new w #[.string s, .string a] 42 0 _ rfl
  have d1 := cells_new w #[.string s, .string a] 42 1 _ rfl
  have HW := Lib.hid hw0
  clear hw0 hB
  by_cases hx : a = x
  · subst hx
    go_enter Try.func48, Try.ntmps48
    go_wp2_with fail
    go_ret
    exact ⟨ret_bool (by simp), HW.out⟩
  · have hx1 := toList_ne hx
    have HX := Lib.hid (show false = decide (a = x) by simp [hx])
    clear hx
    go_enter Try.func48, Try.ntmps48
    go_wp2_with fail
    go_ret
    exact ⟨ret_bool HX.out, HW.out⟩
set_option maxRecDepth 100000 in
set_option maxHeartbeats 1000000 in
theorem cl_flI (s a : ByteArray) (x : ByteArray) (B : Nat) (w : World) (hB : w.cell? ⟨B, 0, none⟩ = some (.string x)) :
    Calls Try.prog 72 #[.agg #[.string s, .string a], .pointer (some ⟨B, 0, none⟩)] w fun e w' => e = .returned (.bool (decide (a = x))) ∧ Below w.heap.size w w' := by
  have hlt := World.block_lt_of_cell? w _ hB
  have hw0 := (Below.refl w.heap.size w).alloc (Nat.le_refl _) (.cells #[.string s, .string a] 42)
  have c1 := (hw0.cell (p := ⟨B, 0, none⟩) hlt).trans hB
  have d0 := cells_new w #[.string s, .string a] 42 0 _ rfl
  have d1 := cells_new w #[.string s, .string a] 42 1 _ rfl
  have HW := Lib.hid hw0
  clear hw0 hB
  by_cases hx : a = x
  · subst hx
    go_enter Try.func72, Try.ntmps72
    go_wp2_with fail
    go_ret
    exact ⟨ret_bool (by simp), HW.out⟩
  · have hx1 := toList_ne hx
    have HX := Lib.hid (show false = decide (a = x) by simp [hx])
    clear hx
    go_enter Try.func72, Try.ntmps72
    go_wp2_with fail
    go_ret
    exact ⟨ret_bool HX.out, HW.out⟩
set_option maxRecDepth 100000 in
set_option maxHeartbeats 1000000 in
theorem cl_flO (s a : ByteArray) (x : ByteArray) (B : Nat) (w : World) (hB : w.cell? ⟨B, 0, none⟩ = some (.string x)) :
    Calls Try.prog 73 #[.agg #[.string s, .string a], .pointer (some ⟨B, 0, none⟩)] w fun e w' => e = .returned (.bool (decide (a = x))) ∧ Below w.heap.size w w' := by
  have hlt := World.block_lt_of_cell? w _ hB
  have hw0 := (Below.refl w.heap.size w).alloc (Nat.le_refl _) (.cells #[.string s, .string a] 42)
  have c1 := (hw0.cell (p := ⟨B, 0, none⟩) hlt).trans hB
  have d0 := cells_new w #[.string s, .string a] 42 0 _ rfl
  have d1 := cells_new w #[.string s, .string a] 42 1 _ rfl
  have HW := Lib.hid hw0
  clear hw0 hB
  by_cases hx : a = x
  · subst hx
    go_enter Try.func73, Try.ntmps73
    go_wp2_with fail
    go_ret
    exact ⟨ret_bool (by simp), HW.out⟩
  · have hx1 := toList_ne hx
    have HX := Lib.hid (show false = decide (a = x) by simp [hx])
    clear hx
    go_enter Try.func73, Try.ntmps73
    go_wp2_with fail
    go_ret
    exact ⟨ret_bool HX.out, HW.out⟩
set_option maxRecDepth 100000 in
set_option maxHeartbeats 1000000 in
theorem cl_scA (a : ByteArray) (pv : Value) (num den : Int) (pd : Bool) (x : ByteArray) (B : Nat) (w : World) (hB : w.cell? ⟨B, 0, none⟩ = some (.string x)) :
    Calls Try.prog 63 #[.agg #[.string a, pv, .int .i64 num, .int .i64 den, .bool pd], .pointer (some ⟨B, 0, none⟩)] w fun e w' => e = .returned (.bool (decide (a = x))) ∧ Below w.heap.size w w' := by
  have hlt := World.block_lt_of_cell? w _ hB
  have hw0 := (Below.refl w.heap.size w).alloc (Nat.le_refl _) (.cells #[.string a, pv, .int .i64 num, .int .i64 den, .bool pd] 63)
  have c1 := (hw0.cell (p := ⟨B, 0, none⟩) hlt).trans hB
  have d0 := cells_new w #[.string a, pv, .int .i64 num, .int .i64 den, .bool pd] 63 0 _ rfl
  have d1 := cells_new w #[.string a, pv, .int .i64 num, .int .i64 den, .bool pd] 63 1 _ rfl
  have d2 := cells_new w #[.string a, pv, .int .i64 num, .int .i64 den, .bool pd] 63 2 _ rfl
  have d3 := cells_new w #[.string a, pv, .int .i64 num, .int .i64 den, .bool pd] 63 3 _ rfl
  have d4 := cells_new w #[.string a, pv, .int .i64 num, .int .i64 den, .bool pd] 63 4 _ rfl
  have HW := Lib.hid hw0
  clear hw0 hB
  by_cases hx : a = x
  · subst hx
    go_enter Try.func63, Try.ntmps63
    go_wp2_with fail
    go_ret
    exact ⟨ret_bool (by simp), HW.out⟩
  · have hx1 := toList_ne hx
    have HX := Lib.hid (show false = decide (a = x) by simp [hx])
    clear hx
    go_enter Try.func63, Try.ntmps63
    go_wp2_with fail
    go_ret
    exact ⟨ret_bool HX.out, HW.out⟩
set_option maxRecDepth 100000 in
set_option maxHeartbeats 1000000 in
theorem scorerAt_ref (v : Value) (L : List ScD) (x : ByteArray) (w : World) (h : ScH w v L) :
    Calls Try.prog 37 #[v, .string x] w fun e w' => e = .returned (.int .i64 (scIdx L x)) ∧ Below w.heap.size w w' := by
  have hw0 := (Below.refl w.heap.size w).alloc (Nat.le_refl _) (.cells #[.string x] 9)
  have c0 := cells_new w #[.string x] 9 0 _ rfl
  have H1 := Lib.hid (idx_sc 63 Try.call63 (.pointer (some ⟨w.heap.size, 0, none⟩)) v L (fun y => decide (y.pl = x)) 0 _ (h.r.below hw0) (by have := h.n; omega) (fun y _ w1 hb => cl_scA y.pl y.pv y.num y.den y.pd x _ w1 ((hb.cell (p := ⟨w.heap.size, 0, none⟩) (by simp)).trans c0)))
  obtain ⟨q, d, hv⟩ := h.r.shape
  clear h
  subst hv
  have HW := Lib.hid hw0
  have HE := Lib.hid (show scIdx L x = idxI L (fun y => decide (y.pl = x)) from rfl)
  clear hw0 c0
  generalize idxI L (fun y => decide (y.pl = x)) = r at *
  go_enter Try.func37, Try.ntmps37
  go_wp2_with fail
  refine H1.out.mono ?_
  rintro e w1 ⟨rfl, hb⟩
  have HB := Lib.hid (HW.out.trans (hb.mono HW.out.size))
  clear hb
  go_wp2_with fail
  go_ret
  exact ⟨ret_int HE.out.symm, HB.out⟩
set_option maxRecDepth 100000 in
set_option maxHeartbeats 1000000 in
theorem isIn_prog (v : Value) (F : List FlD) (x : ByteArray) (w : World) (h : FlH w v F) :
    Calls Try.prog 47 #[v, .string x] w fun e w' => e = .returned (.bool (isInB F x)) ∧ Below w.heap.size w w' := by
  have hw0 := (Below.refl w.heap.size w).alloc (Nat.le_refl _) (.cells #[.string x] 9)
  have c0 := cells_new w #[.string x] 9 0 _ rfl
  have H1 := Lib.hid (any_fl 72 Try.call72 (.pointer (some ⟨w.heap.size, 0, none⟩)) v F (fun y => decide (y.pl = x)) 0 _ (h.r.below hw0) (by have := h.n; omega) (fun y _ w1 hb => cl_flI y.sl y.pl x _ w1 ((hb.cell (p := ⟨w.heap.size, 0, none⟩) (by simp)).trans c0)))
  obtain ⟨q, d, hv⟩ := h.r.shape
  clear h
  subst hv
  have HW := Lib.hid hw0
  have HE := Lib.hid (show isInB F x = F.any (fun y => decide (y.pl = x)) from rfl)
  clear hw0 c0
  generalize F.any (fun y => decide (y.pl = x)) = r at *
  go_enter Try.func47, Try.ntmps47
  go_wp2_with fail
  refine H1.out.mono ?_
  rintro e w1 ⟨rfl, hb⟩
  have HB := Lib.hid (HW.out.trans (hb.mono HW.out.size))
  clear hb
  go_wp2_with fail
  go_ret
  exact ⟨ret_bool HE.out.symm, HB.out⟩
set_option maxRecDepth 100000 in
set_option maxHeartbeats 1000000 in
theorem cl_fit (s : ByteArray) (pv : Value) (zs : List ByteArray) (B : Nat) (w : World) (h : PsH w pv zs) (hB : w.cell? ⟨B, 1, none⟩ = some pv) :
    Calls Try.prog 64 #[.string s, .pointer (some ⟨B, 0, none⟩)] w fun e w' => e = .returned (.bool (hasS zs s)) ∧ Below w.heap.size w w' := by
  have H1 := Lib.hid (contains_str pv zs.length zs s 0 w h.r)
  obtain ⟨q, d, hv⟩ := h.r.shape
  clear h
  subst hv
  generalize hasS zs s = r at *
  go_enter Try.func64, Try.ntmps64
  go_wp2_with fail
  refine H1.out.mono ?_
  rintro e w1 ⟨rfl, rfl⟩
  go_wp2_with fail
  go_ret
  exact ⟨rfl, Below.refl _ _⟩
set_option maxRecDepth 100000 in
set_option maxHeartbeats 1000000 in
theorem cl_com (s : ByteArray) (pv : Value) (zs : List ByteArray) (B : Nat) (w : World) (h : PsH w pv zs) (hB : w.cell? ⟨B, 0, none⟩ = some pv) :
    Calls Try.prog 71 #[.string s, .pointer (some ⟨B, 0, none⟩)] w fun e w' => e = .returned (.bool (hasS zs s)) ∧ Below w.heap.size w w' := by
  have H1 := Lib.hid (contains_str pv zs.length zs s 0 w h.r)
  obtain ⟨q, d, hv⟩ := h.r.shape
  clear h
  subst hv
  generalize hasS zs s = r at *
  go_enter Try.func71, Try.ntmps71
  go_wp2_with fail
  refine H1.out.mono ?_
  rintro e w1 ⟨rfl, rfl⟩
  go_wp2_with fail
  go_ret
  exact ⟨rfl, Below.refl _ _⟩
set_option maxRecDepth 100000 in
set_option maxHeartbeats 1000000 in
theorem common_two (va vb : Value) (a b : List ByteArray) (w : World) (ha : PsH w va a) (hb : PsH w vb b) :
    Calls Try.prog 46 #[va, vb] w fun e w' => e = .returned (.bool (commonB a b)) ∧ Below w.heap.size w w' := by
  have hw0 := (Below.refl w.heap.size w).alloc (Nat.le_refl _) (.cells #[vb] 32)
  have c0 := cells_new w #[vb] 32 0 _ rfl
  have H1 := Lib.hid (any_st 71 Try.call71 (.pointer (some ⟨w.heap.size, 0, none⟩)) va a (fun s => hasS b s) 0 _ (ha.r.below hw0) (by have := ha.n; omega) (fun s _ w1 hb1 => cl_com s vb b _ w1 ((hb.below hw0).below hb1) ((hb1.cell (p := ⟨w.heap.size, 0, none⟩) (by simp)).trans c0)))
  obtain ⟨q, d, hv⟩ := ha.r.shape
  subst hv
  obtain ⟨q2, d2, hv2⟩ := hb.r.shape
  subst hv2
  clear ha hb
  have HW := Lib.hid hw0
  have HE := Lib.hid (show commonB a b = a.any (fun s => hasS b s) from rfl)
  clear hw0 c0
  generalize a.any (fun s => hasS b s) = r at *
  go_enter Try.func46, Try.ntmps46
  go_wp2_with fail
  refine H1.out.mono ?_
  rintro e w1 ⟨rfl, hb⟩
  have HB := Lib.hid (HW.out.trans (hb.mono HW.out.size))
  clear hb
  go_wp2_with fail
  go_ret
  exact ⟨ret_bool HE.out.symm, HB.out⟩
set_option maxRecDepth 100000 in
set_option maxHeartbeats 1000000 in
theorem fit_ref (s : SlD) (x : ScD) (w : World) (hs : PsH w s.pv s.ps) (hx : PsH w x.pv x.ps) :
    Calls Try.prog 39 #[.agg #[.string s.key, s.pv], .agg #[.string x.pl, x.pv, .int .i64 x.num, .int .i64 x.den, .bool x.pd]] w fun e w' => e = .returned (.bool (commonB s.ps x.ps)) ∧ Below w.heap.size w w' := by
  obtain ⟨key, pv, ps⟩ := s
  obtain ⟨pl, qv, qs, num, den, pd⟩ := x
  simp only at hs hx
  have hw0 := (Below.refl w.heap.size w).alloc (Nat.le_refl _) (.cells #[.string key, pv] 55)
  have hw1 := hw0.alloc (by simp) (.cells #[.string pl, qv, .int .i64 num, .int .i64 den, .bool pd] 63)
  have hw1' := (Below.refl (w.alloc (.cells #[.string key, pv] 55)).heap.size (w.alloc (.cells #[.string key, pv] 55))).alloc (Nat.le_refl _) (.cells #[.string pl, qv, .int .i64 num, .int .i64 den, .bool pd] 63)
  have d0 := (hw1'.cell (p := ⟨w.heap.size, 1, none⟩) (by simp)).trans (cells_new w #[.string key, pv] 55 1 _ rfl)
  have c0 := cells_at (w.alloc (.cells #[.string key, pv] 55)) #[.string pl, qv, .int .i64 num, .int .i64 den, .bool pd] 63 (w.heap.size + 1) (by simp) 1 _ rfl
  have H1 := Lib.hid (any_st 64 Try.call64 (.pointer (some ⟨w.heap.size + 1, 0, none⟩)) pv ps (fun s => hasS qs s) 0 _ (hs.r.below hw1) (by have := hs.n; omega) (fun s _ w1 hb1 => cl_fit s qv qs _ w1 ((hx.below hw1).below hb1) ((hb1.cell (p := ⟨w.heap.size + 1, 1, none⟩) (by simp)).trans c0)))
  obtain ⟨q, d, hv⟩ := hs.r.shape
  subst hv
  obtain ⟨q2, d2, hv2⟩ := hx.r.shape
  subst hv2
  clear hs hx
  have HW := Lib.hid hw1
  have HE := Lib.hid (show commonB ps qs = ps.any (fun s => hasS qs s) from rfl)
  clear hw0 hw1 hw1' c0
  generalize ps.any (fun s => hasS qs s) = r at *
  go_enter Try.func39, Try.ntmps39
  go_wp2_with fail
  refine H1.out.mono ?_
  rintro e w1 ⟨rfl, hb⟩
  have HB := Lib.hid (HW.out.trans (hb.mono HW.out.size))
  clear hb
  go_wp2_with fail
  go_ret
  exact ⟨ret_bool HE.out.symm, HB.out⟩
set_option maxRecDepth 100000 in
set_option maxHeartbeats 1000000 in
theorem positions_prog (v : Value) (l : List ByteArray) (w : World) (h : PsH w v l) :
    Calls Try.prog 81 #[v] w fun e w' => e = .returned (.int .i64 (posE l)) ∧ Below w.heap.size w w' := by
  have H1 := Lib.hid (rising_prog v l.length l 0 w h.r (fun s hs => by have := h.z s hs; omega))
  obtain ⟨q, d, hv⟩ := h.r.shape
  subst hv
  have hn := h.n
  clear h
  by_cases h0 : l.length = 0
  · have HE := Lib.hid (show (8 : Int) = posE l by unfold posE; rw [if_pos h0])
    rw [h0]
    clear H1 h0 hn
    go_enter Try.func81, Try.ntmps81
    go_wp2_with fail
    go_ret
    exact ⟨ret_int HE.out, Below.refl _ _⟩
  · have hb0 : ((l.length : Int) == 0) = false := by simp; intro e; exact h0 (by rw [e]; rfl)
    by_cases h1 : 10 < l.length
    · have HE := Lib.hid (show (2 : Int) = posE l by unfold posE listE; rw [if_neg h0, if_pos h1])
      clear H1 h0
      generalize l.length = n at *
      have h1 : (10 : Int) < n := by omega
      go_enter Try.func81, Try.ntmps81
      go_wp2_with fail
      go_ret
      exact ⟨ret_int HE.out, Below.refl _ _⟩
    · have HE := Lib.hid (show risingE l = posE l by unfold posE listE; rw [if_neg h0, if_neg h1])
      clear h0
      generalize risingE l = r at *
      have h1 : decide ((10 : Int) < l.length) = false := by simp; omega
      go_enter Try.func81, Try.ntmps81
      go_wp2_with fail
      refine H1.out.mono ?_
      rintro e w1 ⟨rfl, hb⟩
      have HB := Lib.hid hb
      clear hb
      go_wp2_with fail
      go_ret
      exact ⟨ret_int HE.out, HB.out⟩
end Go.Proofs.Ytnmdpphddimfbaa
/-
  Line-ups: what is wrong with slots (CheckSlots, SlotsFault). Conditions: at most 1000 slots; strings of at most 1000 bytes.
-/
set_option linter.unusedVariables false
namespace Go.Bw
open Go.RowKit
theorem t3x {P : Program} {n i : Nat} {l : List (Nat × Value)} {s : Code} {S X T : Rel} {id : Nat} {p : Prop} {C : Prop} {W : World → Prop} {R : Rel} (h : T3 P R s S X id T) (hR : ∀ a w, Fr n ((i, .bool true) :: l) a ∧ C ∧ W w → p ∧ R a w) :
    T3 P (fun a w => Fr n ((i, .bool true) :: l) a ∧ C ∧ W w) s (fun a w => p ∧ S a w) X id T := by
  intro a w q
  obtain ⟨hp, hr⟩ := hR a w q
  refine wp_mono (h a w hr) ?_
  intro e a w q
  cases e with
  | normal => exact ⟨hp, q⟩
  | exit i => exact q
  | ret => exact q
  | goto l => exact q
  | panic ch => exact q
  | outgrown => exact q
end Go.Bw
namespace Go.Proofs.Ytnmdpphddimfbaa
open Go.RowKit Go.Bw
set_option maxRecDepth 100000 in
set_option maxHeartbeats 1000000 in
theorem listNeed_ref (v : Value) (l : List ByteArray) (w : World) (h : PsH w v l) :
    Calls Try.prog 35 #[v, .bool true] w fun e w' => e = .returned (.int .i64 (posE l)) ∧ Below w.heap.size w w' := by
  have H1 := Lib.hid (rising_ref v l.length l 0 w h.r (fun s hs => by have := h.z s hs; omega))
  obtain ⟨q, d, hv⟩ := h.r.shape
  subst hv
  have hn := h.n
  clear h
  by_cases h0 : l.length = 0
  · have HE := Lib.hid (show (8 : Int) = posE l by unfold posE; rw [if_pos h0])
    rw [h0]
    clear H1 h0 hn
    go_enter Try.func35, Try.ntmps35
    go_wp2_with fail
    go_ret
    exact ⟨ret_int HE.out, Below.refl _ _⟩
  · have hb0 : ((l.length : Int) == 0) = false := by simp; intro e; exact h0 (by rw [e]; rfl)
    by_cases h1 : 10 < l.length
    · have HE := Lib.hid (show (2 : Int) = posE l by unfold posE listE; rw [if_neg h0, if_pos h1])
      clear H1 h0
      generalize l.length = n at *
      have h1 : (10 : Int) < n := by omega
      go_enter Try.func35, Try.ntmps35
      go_wp2_with fail
      go_ret
      exact ⟨ret_int HE.out, Below.refl _ _⟩
    · have HE := Lib.hid (show risingE l = posE l by unfold posE listE; rw [if_neg h0, if_neg h1])
      clear h0
      generalize risingE l = r at *
      have h1 : decide ((10 : Int) < l.length) = false := by simp; omega
      go_enter Try.func35, Try.ntmps35
      go_wp2_with fail
      refine H1.out.mono ?_
      rintro e w1 ⟨rfl, hb⟩
      have HB := Lib.hid hb
      clear hb
      go_wp2_with fail
      go_ret
      exact ⟨ret_int HE.out, HB.out⟩
/-- A slot in a box. -/
structure SlB (w : World) (g : Nat) (x : SlD) : Prop where
  c0 : w.cell? ⟨g, 0, none⟩ = some (.string x.key)
  c1 : w.cell? ⟨g, 1, none⟩ = some x.pv
theorem SlB.new (w : World) (x : SlD) (e : TypeId) : SlB (w.alloc (.cells #[.string x.key, x.pv] e)) w.heap.size x := ⟨cells_new w _ _ 0 _ rfl, cells_new w _ _ 1 _ rfl⟩
theorem SlB.below {w w' : World} {g : Nat} {x : SlD} (h : SlB w g x) (b : Below w.heap.size w w') : SlB w' g x :=
  ⟨(b.cell (World.block_lt_of_cell? w _ h.c0)).trans h.c0, (b.cell (World.block_lt_of_cell? w _ h.c1)).trans h.c1⟩
/-- How many slots. -/
structure SlN (S : List SlD) : Prop where
  lo : S.length ≠ 0
  hi : S.length ≤ 12
theorem slotsE_none {S : List SlD} (h : S.length = 0) : slotsE S = 8 := by unfold slotsE; rw [if_pos h]
theorem slotsE_big {S : List SlD} (h0 : S.length ≠ 0) (h : 12 < S.length) : slotsE S = 2 := by unfold slotsE; rw [if_neg h0, if_pos h]
theorem slotsE_in {S : List SlD} (h : SlN S) : slotsE S = firstErr (slotAt S) S.length := by unfold slotsE; rw [if_neg h.lo, if_neg (by have := h.hi; omega)]
theorem slotsE_hit {S : List SlD} (h : SlN S) {k : Int} (h0 : 0 ≤ k) (h1 : k < S.length) (hn : NoErr (slotAt S) k) (hk : slotAt S k ≠ 0) : slotsE S = slotAt S k := by rw [slotsE_in h]; exact firstErr_hit hn h0 h1 hk
theorem slotsE_ok {S : List SlD} (h : SlN S) (hn : NoErr (slotAt S) S.length) : slotsE S = 0 := by rw [slotsE_in h]; exact firstErr_none hn
theorem Row.firstN {α : Type} {enc : α → List Value} {sz : Nat} (henc : ∀ x, (enc x).length = sz) {w : World} {cap b off : Nat} {l : List α} (h : Row w 0 sz (.slice (some ⟨b, off, none⟩) l.length cap) l.length (cellsOf enc l)) {k : Int} (h0 : 0 ≤ k) (hk : k ≤ l.length) :
    Row w 0 sz (.slice (some ⟨b, off, none⟩) k.toNat cap) (l.take k.toNat).length (cellsOf enc (l.take k.toNat)) := by
  have e : (l.take k.toNat).length = k.toNat := by rw [List.length_take]; omega
  rw [e]
  exact Row.first henc h rfl (by omega)
noncomputable def spP : Code := (Try.f66.body).getD .skip
set_option maxRecDepth 100000 in
theorem fr_spP (f : Nat → Value) : frame 39 f = ⟨#[f 0, f 1, f 2, f 3, f 4, f 5, f 6, f 7, f 8, f 9, f 10, f 11, f 12, f 13, f 14, f 15, f 16, f 17, f 18, f 19, f 20, f 21, f 22, f 23, f 24, f 25, f 26, f 27, f 28, f 29, f 30, f 31, f 32, f 33, f 34, f 35, f 36, f 37, f 38], []⟩ := by rfl
set_option maxRecDepth 100000 in
set_option maxHeartbeats 1000000 in
theorem sp0 (w0 : World) (v : Value) (S : List SlD) (h : SlH w0 v S) : T3 Try.prog (fun a w => (Below w0.heap.size w0 w) ∧ Fr 39 [(0, v)] a) (sel [0] spP) (fun a w => (Below w0.heap.size w0 w) ∧ Fr 39 [(0, v)] a) No 9 (fun a w => Fr 39 [(2, .int .i64 (slotsE S))] a ∧ Below w0.heap.size w0 w) := by
  refine T3.leaf ?_
  rintro Q JS JX JT K hS hK hX hE hT hR a w ⟨hW, ⟨fr, rfl, q0, _⟩⟩
  have HW := Lib.hid hW
  have hsn := h.n
  obtain ⟨p1, c1, hv1⟩ := h.r.shape
  subst hv1
  clear hW
  rw [fr_spP, show fr 0 = _ from q0]
  clear q0
  conv => arg 2; whnf
  go_wp2_with fail
  refine Met.intro (hS _ _ ?_)
  exact ⟨HW.out, Fr.of _ rfl ⟨rfl, trivial⟩⟩

set_option maxRecDepth 100000 in
set_option maxHeartbeats 1000000 in
theorem sp1 (w0 : World) (v : Value) (S : List SlD) (h : SlH w0 v S) : T3 Try.prog (fun a w => (Below w0.heap.size w0 w) ∧ Fr 39 [(0, v)] a) (sel [1, 0, 4, 0] spP) (fun a w => ∃ q, Fr 39 ((6, .bool q) :: [(0, v)]) a ∧ ((q = ((S.length : Int) == 0)) ∧ Below w0.heap.size w0 w)) No 9 (fun a w => Fr 39 [(2, .int .i64 (slotsE S))] a ∧ Below w0.heap.size w0 w) := by
  refine T3.leaf ?_
  rintro Q JS JX JT K hS hK hX hE hT hR a w ⟨hW, ⟨fr, rfl, q0, _⟩⟩
  have HW := Lib.hid hW
  have hsn := h.n
  obtain ⟨p1, c1, hv1⟩ := h.r.shape
  subst hv1
  clear hW
  generalize hq : ((S.length : Int) == 0) = q at *
  rw [fr_spP, show fr 0 = _ from q0]
  clear q0
  conv => arg 2; whnf
  go_wp2_with fail
  refine Met.intro (hS _ _ ?_)
  exact ⟨_, Fr.of _ rfl ⟨rfl, rfl, trivial⟩, rfl, HW.out⟩

set_option maxRecDepth 100000 in
set_option maxHeartbeats 1000000 in
theorem sp2 (w0 : World) (v : Value) (S : List SlD) (h : SlH w0 v S) : T3 Try.prog (fun a w => (Below w0.heap.size w0 w) ∧ Fr 39 [(0, v)] a) (sel [1, 0, 4, 1, 2, 0] spP) (fun a w => (Below w0.heap.size w0 w) ∧ Fr 39 [(2, .int .i64 8)] a) No 9 (fun a w => Fr 39 [(2, .int .i64 (slotsE S))] a ∧ Below w0.heap.size w0 w) := by
  refine T3.leaf ?_
  rintro Q JS JX JT K hS hK hX hE hT hR a w ⟨hW, ⟨fr, rfl, q0, _⟩⟩
  have HW := Lib.hid hW
  have hsn := h.n
  obtain ⟨p1, c1, hv1⟩ := h.r.shape
  subst hv1
  clear hW
  rw [fr_spP, show fr 0 = _ from q0]
  clear q0
  conv => arg 2; whnf
  go_wp2_with fail
  refine Met.intro (hS _ _ ?_)
  exact ⟨HW.out, Fr.of _ rfl ⟨rfl, trivial⟩⟩

set_option maxRecDepth 100000 in
set_option maxHeartbeats 1000000 in
theorem sp3 (w0 : World) (v : Value) (S : List SlD) (h : SlH w0 v S) : T3 Try.prog (fun a w => (Below w0.heap.size w0 w) ∧ Fr 39 [(0, v)] a) (sel [1, 0, 4, 1, 3, 0] spP) (fun a w => ∃ q, Fr 39 ((10, .bool q) :: [(0, v)]) a ∧ ((q = decide ((12 : Int) < (S.length : Int))) ∧ Below w0.heap.size w0 w)) No 9 (fun a w => Fr 39 [(2, .int .i64 (slotsE S))] a ∧ Below w0.heap.size w0 w) := by
  refine T3.leaf ?_
  rintro Q JS JX JT K hS hK hX hE hT hR a w ⟨hW, ⟨fr, rfl, q0, _⟩⟩
  have HW := Lib.hid hW
  have hsn := h.n
  obtain ⟨p1, c1, hv1⟩ := h.r.shape
  subst hv1
  clear hW
  rw [fr_spP, show fr 0 = _ from q0]
  clear q0
  conv => arg 2; whnf
  go_wp2_with fail
  refine Met.intro (hS _ _ ?_)
  exact ⟨_, Fr.of _ rfl ⟨rfl, rfl, trivial⟩, rfl, HW.out⟩

set_option maxRecDepth 100000 in
set_option maxHeartbeats 1000000 in
theorem sp4 (w0 : World) (v : Value) (S : List SlD) (h : SlH w0 v S) : T3 Try.prog (fun a w => (Below w0.heap.size w0 w) ∧ Fr 39 [(0, v)] a) (sel [1, 0, 4, 1, 3, 1, 2, 0] spP) (fun a w => (Below w0.heap.size w0 w) ∧ Fr 39 [(2, .int .i64 2)] a) No 9 (fun a w => Fr 39 [(2, .int .i64 (slotsE S))] a ∧ Below w0.heap.size w0 w) := by
  refine T3.leaf ?_
  rintro Q JS JX JT K hS hK hX hE hT hR a w ⟨hW, ⟨fr, rfl, q0, _⟩⟩
  have HW := Lib.hid hW
  have hsn := h.n
  obtain ⟨p1, c1, hv1⟩ := h.r.shape
  subst hv1
  clear hW
  rw [fr_spP, show fr 0 = _ from q0]
  clear q0
  conv => arg 2; whnf
  go_wp2_with fail
  refine Met.intro (hS _ _ ?_)
  exact ⟨HW.out, Fr.of _ rfl ⟨rfl, trivial⟩⟩

set_option maxRecDepth 100000 in
set_option maxHeartbeats 1000000 in
theorem sp5 (w0 : World) (v : Value) (S : List SlD) (h : SlH w0 v S) (hN : SlN S) : T3 Try.prog (fun a w => (Below w0.heap.size w0 w) ∧ Fr 39 [(0, v)] a) (sel [1, 1, 0, 0] spP) (fun a w => (0 ≤ (0 : Int) ∧ (0 : Int) ≤ S.length) ∧ (NoErr (slotAt S) 0) ∧ (Below w0.heap.size w0 w) ∧ Fr 39 [(0, v), (14, v), (15, .int .i64 S.length), (16, .int .i64 0)] a) No 9 (fun a w => Fr 39 [(2, .int .i64 (slotsE S))] a ∧ Below w0.heap.size w0 w) := by
  refine T3.leaf ?_
  rintro Q JS JX JT K hS hK hX hE hT hR a w ⟨hW, ⟨fr, rfl, q0, _⟩⟩
  have HW := Lib.hid hW
  have hsn := h.n
  obtain ⟨p1, c1, hv1⟩ := h.r.shape
  subst hv1
  clear hW
  rw [fr_spP, show fr 0 = _ from q0]
  clear q0
  conv => arg 2; whnf
  go_wp2_with fail
  refine Met.intro (hS _ _ ?_)
  exact ⟨⟨by omega, by omega⟩, NoErr.zero _, HW.out, Fr.of _ rfl ⟨rfl, rfl, rfl, rfl, trivial⟩⟩

set_option maxRecDepth 100000 in
set_option maxHeartbeats 1000000 in
theorem sp7 (w0 : World) (v : Value) (S : List SlD) (h : SlH w0 v S) (hN : SlN S) (k : Int) : T3 Try.prog (fun a w => ((0 ≤ k ∧ k < S.length) ∧ NoErr (slotAt S) k) ∧ (Below w0.heap.size w0 w) ∧ Fr 39 [(0, v), (14, v), (15, .int .i64 S.length), (16, .int .i64 k)] a) (sel [1, 1, 0, 1, 4, 4, 1, 1, 0, 4, 0] spP) (fun a w => ∃ (g4 : Nat), ((0 ≤ k ∧ k < S.length) ∧ NoErr (slotAt S) k) ∧ (Below w0.heap.size w0 w ∧ SlB w g4 (geta S k)) ∧ Fr 39 [(0, v), (3, .int .i64 k), (4, .pointer (some ⟨g4, 0, none⟩)), (14, v), (15, .int .i64 S.length), (16, .int .i64 k)] a) No 9 (fun a w => Fr 39 [(2, .int .i64 (slotsE S))] a ∧ Below w0.heap.size w0 w) := by
  refine T3.leaf ?_
  rintro Q JS JX JT K hS hK hX hE hT hR a w ⟨hpre, hW, ⟨fr, rfl, q0, q14, q15, q16, _⟩⟩
  have hpp := Lib.hid hpre
  obtain ⟨⟨hk0, hk1⟩, _⟩ := hpre
  have hsn := h.n
  have hHW := Lib.hid hW
  obtain ⟨_, hcs⟩ := (h.below hW).r.els encSl_length (by decide)
  rcases hcs with ⟨rfl, h0⟩ | ⟨bz, off, cap, rfl, _, hbz, hnc, hcm, hcell⟩
  · omega
  have t0 := hcell k hk0 hk1 0 _ rfl
  have t1 := hcell k hk0 hk1 1 _ rfl
  rw [Nat.add_zero] at t0
  have HB := Lib.hid (SlB.new w (geta S k) 55)
  have HA := Lib.hid (fun o => (Below.refl w.heap.size w).alloc (Nat.le_refl _) o)
  obtain ⟨q, d, hq⟩ := (h.p _ (geta_mem hk0 hk1)).r.shape
  clear hcell hW h
  generalize geta S k = x at *
  obtain ⟨xk, xv, xps⟩ := x
  simp only at hq t0 t1
  subst hq
  rw [fr_spP, show fr 0 = _ from q0, show fr 14 = _ from q14, show fr 15 = _ from q15, show fr 16 = _ from q16]
  clear q0 q14 q15 q16
  conv => arg 2; whnf
  go_wp2_with fail
  refine Met.intro (hS _ _ ?_)
  exact ⟨_, hpp.out, ⟨hHW.out.trans ((HA.out _).mono hHW.out.size), HB.out⟩, Fr.of _ rfl ⟨rfl, rfl, rfl, rfl, rfl, rfl, trivial⟩⟩

set_option maxRecDepth 100000 in
set_option maxHeartbeats 1000000 in
theorem sp8 (w0 : World) (v : Value) (S : List SlD) (h : SlH w0 v S) (hN : SlN S) (k : Int) (g4 : Nat) : T3 Try.prog (fun a w => ((0 ≤ k ∧ k < S.length) ∧ NoErr (slotAt S) k) ∧ (Below w0.heap.size w0 w ∧ SlB w g4 (geta S k)) ∧ Fr 39 [(0, v), (3, .int .i64 k), (4, .pointer (some ⟨g4, 0, none⟩)), (14, v), (15, .int .i64 S.length), (16, .int .i64 k)] a) (sel [1, 1, 0, 1, 4, 4, 1, 1, 0, 4, 1, 0, 4, 0] spP) (fun a w => ∃ q, Fr 39 ((21, .bool q) :: [(0, v), (3, .int .i64 k), (4, .pointer (some ⟨g4, 0, none⟩)), (14, v), (15, .int .i64 S.length), (16, .int .i64 k)]) a ∧ ((((0 ≤ k ∧ k < S.length) ∧ NoErr (slotAt S) k) ∧ q = !keyB (geta S k).key) ∧ Below w0.heap.size w0 w ∧ SlB w g4 (geta S k))) No 9 (fun a w => Fr 39 [(2, .int .i64 (slotsE S))] a ∧ Below w0.heap.size w0 w) := by
  refine T3.leaf ?_
  rintro Q JS JX JT K hS hK hX hE hT hR a w ⟨hpre, hW, ⟨fr, rfl, q0, q3, q4, q14, q15, q16, _⟩⟩
  have hpp := Lib.hid hpre
  obtain ⟨⟨hk0, hk1⟩, _⟩ := hpre
  have hsn := h.n
  have HW := Lib.hid hW
  have hz := h.z _ (geta_mem hk0 hk1)
  have HK := Lib.hid (key_prog (geta S k).key w (by omega))
  have t0 := hW.2.c0
  obtain ⟨p1, c1, hv1⟩ := h.r.shape
  subst hv1
  clear h hW hz
  generalize (geta S k).key = x at *
  generalize keyB x = q at *
  rw [fr_spP, show fr 0 = _ from q0, show fr 3 = _ from q3, show fr 4 = _ from q4, show fr 14 = _ from q14, show fr 15 = _ from q15, show fr 16 = _ from q16]
  clear q0 q3 q4 q14 q15 q16
  conv => arg 2; whnf
  go_wp2_with fail
  refine HK.out.mono ?_
  rintro e w1 ⟨rfl, rfl⟩
  go_wp2_with fail
  have hpre := hpp.out
  refine Met.intro (hS _ _ ?_)
  exact ⟨_, Fr.of _ rfl ⟨rfl, rfl, rfl, rfl, rfl, rfl, rfl, trivial⟩, ⟨hpre, rfl⟩, HW.out⟩

set_option maxRecDepth 100000 in
set_option maxHeartbeats 1000000 in
theorem sp9 (w0 : World) (v : Value) (S : List SlD) (h : SlH w0 v S) (hN : SlN S) (k : Int) (g4 : Nat) : T3 Try.prog (fun a w => (Below w0.heap.size w0 w ∧ SlB w g4 (geta S k)) ∧ Fr 39 [(0, v), (3, .int .i64 k), (4, .pointer (some ⟨g4, 0, none⟩)), (14, v), (15, .int .i64 S.length), (16, .int .i64 k)] a) (sel [1, 1, 0, 1, 4, 4, 1, 1, 0, 4, 1, 0, 4, 1, 2, 0] spP) (fun a w => (Below w0.heap.size w0 w) ∧ Fr 39 [(2, .int .i64 5)] a) No 9 (fun a w => Fr 39 [(2, .int .i64 (slotsE S))] a ∧ Below w0.heap.size w0 w) := by
  refine T3.leaf ?_
  rintro Q JS JX JT K hS hK hX hE hT hR a w ⟨hW, ⟨fr, rfl, q0, q3, q4, q14, q15, q16, _⟩⟩
  have HW := Lib.hid hW
  clear hW
  obtain ⟨p1, c1, hv1⟩ := h.r.shape
  subst hv1
  rw [fr_spP, show fr 0 = _ from q0, show fr 3 = _ from q3, show fr 4 = _ from q4, show fr 14 = _ from q14, show fr 15 = _ from q15, show fr 16 = _ from q16]
  clear q0 q3 q4 q14 q15 q16
  conv => arg 2; whnf
  go_wp2_with fail
  refine Met.intro (hS _ _ ?_)
  exact ⟨HW.out.1, Fr.of _ rfl ⟨rfl, trivial⟩⟩

set_option maxRecDepth 100000 in
set_option maxHeartbeats 1000000 in
theorem sp10 (w0 : World) (v : Value) (S : List SlD) (h : SlH w0 v S) (hN : SlN S) (k : Int) (g4 : Nat) : T3 Try.prog (fun a w => ((0 ≤ k ∧ k < S.length) ∧ NoErr (slotAt S) k) ∧ (Below w0.heap.size w0 w ∧ SlB w g4 (geta S k)) ∧ Fr 39 [(0, v), (3, .int .i64 k), (4, .pointer (some ⟨g4, 0, none⟩)), (14, v), (15, .int .i64 S.length), (16, .int .i64 k)] a) (sel [1, 1, 0, 1, 4, 4, 1, 1, 0, 4, 1, 0, 4, 1, 3, 0] spP) (fun a w => ∃ q, Fr 39 ((26, .bool q) :: [(0, v), (3, .int .i64 k), (4, .pointer (some ⟨g4, 0, none⟩)), (14, v), (15, .int .i64 S.length), (16, .int .i64 k)]) a ∧ ((((0 ≤ k ∧ k < S.length) ∧ NoErr (slotAt S) k) ∧ q = slotDup S k) ∧ Below w0.heap.size w0 w ∧ SlB w g4 (geta S k))) No 9 (fun a w => Fr 39 [(2, .int .i64 (slotsE S))] a ∧ Below w0.heap.size w0 w) := by
  refine T3.leaf ?_
  rintro Q JS JX JT K hS hK hX hE hT hR a w ⟨hpre, hW, ⟨fr, rfl, q0, q3, q4, q14, q15, q16, _⟩⟩
  have hpp := Lib.hid hpre
  obtain ⟨⟨hk0, hk1⟩, _⟩ := hpre
  have hsn := h.n
  have HW := Lib.hid hW
  have hR := (h.below hW.1).r
  have hb4 := hW.2.c0
  rcases hR.2 with ⟨hv, h0⟩ | ⟨bz, off, cap, hv, _, hbz, hnc, hcm, hcell⟩
  · omega
  subst hv
  simp only [maxLen] at hcm
  have HC := Lib.hid (any_sl 80 Try.call80 (.pointer (some ⟨g4, 0, none⟩)) _ (S.take k.toNat) (fun y => decide (y.key = (geta S k).key)) 0 w (Row.firstN encSl_length hR hk0 (by omega)) (by rw [List.length_take]; omega) (fun y _ w1 hb => cl_slC y.key y.pv (geta S k).key g4 w1 ((hb.cell (World.block_lt_of_cell? w _ hb4)).trans hb4)))
  have hbq : (0 : Int) ≤ k ∧ k ≤ S.length ∧ (S.length : Int) ≤ cap := by omega
  have HE := Lib.hid (show (S.take k.toNat).any (fun y => decide (y.key = (geta S k).key)) = slotDup S k from rfl)
  rw [HE.out] at HC
  clear hcell hR h hb4 hW
  generalize slotDup S k = q at *
  rw [fr_spP, show fr 0 = _ from q0, show fr 3 = _ from q3, show fr 4 = _ from q4, show fr 14 = _ from q14, show fr 15 = _ from q15, show fr 16 = _ from q16]
  clear q0 q3 q4 q14 q15 q16
  conv => arg 2; whnf
  go_wp2_with fail
  refine HC.out.mono ?_
  rintro e w1 ⟨rfl, hb⟩
  have HR := Lib.hid (show Below w0.heap.size w0 w1 ∧ SlB w1 g4 (geta S k) from ⟨HW.out.1.trans (hb.mono HW.out.1.size), HW.out.2.below hb⟩)
  clear hb
  go_wp2_with fail
  have hpre := hpp.out
  refine Met.intro (hS _ _ ?_)
  exact ⟨_, Fr.of _ rfl ⟨rfl, rfl, rfl, rfl, rfl, rfl, rfl, trivial⟩, ⟨hpre, rfl⟩, HR.out⟩

set_option maxRecDepth 100000 in
set_option maxHeartbeats 1000000 in
theorem sp11 (w0 : World) (v : Value) (S : List SlD) (h : SlH w0 v S) (hN : SlN S) (k : Int) (g4 : Nat) : T3 Try.prog (fun a w => (Below w0.heap.size w0 w ∧ SlB w g4 (geta S k)) ∧ Fr 39 [(0, v), (3, .int .i64 k), (4, .pointer (some ⟨g4, 0, none⟩)), (14, v), (15, .int .i64 S.length), (16, .int .i64 k)] a) (sel [1, 1, 0, 1, 4, 4, 1, 1, 0, 4, 1, 0, 4, 1, 3, 1, 2, 0] spP) (fun a w => (Below w0.heap.size w0 w) ∧ Fr 39 [(2, .int .i64 6)] a) No 9 (fun a w => Fr 39 [(2, .int .i64 (slotsE S))] a ∧ Below w0.heap.size w0 w) := by
  refine T3.leaf ?_
  rintro Q JS JX JT K hS hK hX hE hT hR a w ⟨hW, ⟨fr, rfl, q0, q3, q4, q14, q15, q16, _⟩⟩
  have HW := Lib.hid hW
  clear hW
  obtain ⟨p1, c1, hv1⟩ := h.r.shape
  subst hv1
  rw [fr_spP, show fr 0 = _ from q0, show fr 3 = _ from q3, show fr 4 = _ from q4, show fr 14 = _ from q14, show fr 15 = _ from q15, show fr 16 = _ from q16]
  clear q0 q3 q4 q14 q15 q16
  conv => arg 2; whnf
  go_wp2_with fail
  refine Met.intro (hS _ _ ?_)
  exact ⟨HW.out.1, Fr.of _ rfl ⟨rfl, trivial⟩⟩

set_option maxRecDepth 100000 in
set_option maxHeartbeats 1000000 in
theorem sp12 (w0 : World) (v : Value) (S : List SlD) (h : SlH w0 v S) (hN : SlN S) (k : Int) (g4 : Nat) : T3 Try.prog (fun a w => ((0 ≤ k ∧ k < S.length) ∧ NoErr (slotAt S) k) ∧ (Below w0.heap.size w0 w ∧ SlB w g4 (geta S k)) ∧ Fr 39 [(0, v), (3, .int .i64 k), (4, .pointer (some ⟨g4, 0, none⟩)), (14, v), (15, .int .i64 S.length), (16, .int .i64 k)] a) (sel [1, 1, 0, 1, 4, 4, 1, 1, 0, 4, 1, 1, 0] spP) (fun a w => ((0 ≤ k ∧ k < S.length) ∧ NoErr (slotAt S) k) ∧ (Below w0.heap.size w0 w ∧ SlB w g4 (geta S k)) ∧ Fr 39 [(0, v), (3, .int .i64 k), (4, .pointer (some ⟨g4, 0, none⟩)), (5, .int .i64 (posE (geta S k).ps)), (14, v), (15, .int .i64 S.length), (16, .int .i64 k)] a) No 9 (fun a w => Fr 39 [(2, .int .i64 (slotsE S))] a ∧ Below w0.heap.size w0 w) := by
  refine T3.leaf ?_
  rintro Q JS JX JT K hS hK hX hE hT hR a w ⟨hpre, hW, ⟨fr, rfl, q0, q3, q4, q14, q15, q16, _⟩⟩
  have hpp := Lib.hid hpre
  obtain ⟨⟨hk0, hk1⟩, _⟩ := hpre
  have hsn := h.n
  have HW := Lib.hid hW
  have HK := Lib.hid (positions_prog (geta S k).pv (geta S k).ps w ((h.p _ (geta_mem hk0 hk1)).below hW.1))
  have t1 := hW.2.c1
  obtain ⟨q, d, hq⟩ := (h.p _ (geta_mem hk0 hk1)).r.shape
  obtain ⟨p1, c1, hv1⟩ := h.r.shape
  subst hv1
  clear h hW
  generalize posE (geta S k).ps = e0 at *
  generalize hx : (geta S k).pv = x at *
  subst hq
  rw [fr_spP, show fr 0 = _ from q0, show fr 3 = _ from q3, show fr 4 = _ from q4, show fr 14 = _ from q14, show fr 15 = _ from q15, show fr 16 = _ from q16]
  clear q0 q3 q4 q14 q15 q16
  conv => arg 2; whnf
  go_wp2_with fail
  refine HK.out.mono ?_
  rintro e w1 ⟨rfl, hb⟩
  have HR := Lib.hid (show Below w0.heap.size w0 w1 ∧ SlB w1 g4 (geta S k) from ⟨HW.out.1.trans (hb.mono HW.out.1.size), HW.out.2.below hb⟩)
  clear hb
  go_wp2_with fail
  refine Met.intro (hS _ _ ?_)
  exact ⟨hpp.out, HR.out, Fr.of _ rfl ⟨rfl, rfl, rfl, rfl, rfl, rfl, rfl, trivial⟩⟩

set_option maxRecDepth 100000 in
set_option maxHeartbeats 1000000 in
theorem sp13 (w0 : World) (v : Value) (S : List SlD) (h : SlH w0 v S) (hN : SlN S) (k : Int) (g4 : Nat) : T3 Try.prog (fun a w => ((0 ≤ k ∧ k < S.length) ∧ NoErr (slotAt S) k) ∧ (Below w0.heap.size w0 w ∧ SlB w g4 (geta S k)) ∧ Fr 39 [(0, v), (3, .int .i64 k), (4, .pointer (some ⟨g4, 0, none⟩)), (5, .int .i64 (posE (geta S k).ps)), (14, v), (15, .int .i64 S.length), (16, .int .i64 k)] a) (sel [1, 1, 0, 1, 4, 4, 1, 1, 0, 4, 1, 1, 1, 0] spP) (fun a w => ∃ q, Fr 39 ((36, .bool q) :: [(0, v), (3, .int .i64 k), (4, .pointer (some ⟨g4, 0, none⟩)), (5, .int .i64 (posE (geta S k).ps)), (14, v), (15, .int .i64 S.length), (16, .int .i64 k)]) a ∧ ((((0 ≤ k ∧ k < S.length) ∧ NoErr (slotAt S) k) ∧ q = (posE (geta S k).ps != 0)) ∧ Below w0.heap.size w0 w ∧ SlB w g4 (geta S k))) No 9 (fun a w => Fr 39 [(2, .int .i64 (slotsE S))] a ∧ Below w0.heap.size w0 w) := by
  refine T3.leaf ?_
  rintro Q JS JX JT K hS hK hX hE hT hR a w ⟨hpre, hW, ⟨fr, rfl, q0, q3, q4, q5, q14, q15, q16, _⟩⟩
  have hpp := Lib.hid hpre
  obtain ⟨⟨hk0, hk1⟩, _⟩ := hpre
  have hsn := h.n
  have HW := Lib.hid hW
  obtain ⟨p1, c1, hv1⟩ := h.r.shape
  subst hv1
  clear hW
  generalize posE (geta S k).ps = e0 at *
  generalize hqq : (e0 != 0) = qq at *
  rw [fr_spP, show fr 0 = _ from q0, show fr 3 = _ from q3, show fr 4 = _ from q4, show fr 5 = _ from q5, show fr 14 = _ from q14, show fr 15 = _ from q15, show fr 16 = _ from q16]
  clear q0 q3 q4 q5 q14 q15 q16
  conv => arg 2; whnf
  go_wp2_with fail
  have hpre := hpp.out
  refine Met.intro (hS _ _ ?_)
  exact ⟨_, Fr.of _ rfl ⟨rfl, rfl, rfl, rfl, rfl, rfl, rfl, rfl, trivial⟩, ⟨hpre, rfl⟩, HW.out⟩

set_option maxRecDepth 100000 in
set_option maxHeartbeats 1000000 in
theorem sp14 (w0 : World) (v : Value) (S : List SlD) (h : SlH w0 v S) (hN : SlN S) (k : Int) (g4 : Nat) : T3 Try.prog (fun a w => (Below w0.heap.size w0 w ∧ SlB w g4 (geta S k)) ∧ Fr 39 [(0, v), (3, .int .i64 k), (4, .pointer (some ⟨g4, 0, none⟩)), (5, .int .i64 (posE (geta S k).ps)), (14, v), (15, .int .i64 S.length), (16, .int .i64 k)] a) (sel [1, 1, 0, 1, 4, 4, 1, 1, 0, 4, 1, 1, 1, 1, 2, 0] spP) (fun a w => (Below w0.heap.size w0 w) ∧ Fr 39 [(2, .int .i64 (posE (geta S k).ps))] a) No 9 (fun a w => Fr 39 [(2, .int .i64 (slotsE S))] a ∧ Below w0.heap.size w0 w) := by
  refine T3.leaf ?_
  rintro Q JS JX JT K hS hK hX hE hT hR a w ⟨hW, ⟨fr, rfl, q0, q3, q4, q5, q14, q15, q16, _⟩⟩
  have HW := Lib.hid hW
  clear hW
  obtain ⟨p1, c1, hv1⟩ := h.r.shape
  subst hv1
  generalize posE (geta S k).ps = e0 at *
  rw [fr_spP, show fr 0 = _ from q0, show fr 3 = _ from q3, show fr 4 = _ from q4, show fr 5 = _ from q5, show fr 14 = _ from q14, show fr 15 = _ from q15, show fr 16 = _ from q16]
  clear q0 q3 q4 q5 q14 q15 q16
  conv => arg 2; whnf
  go_wp2_with fail
  refine Met.intro (hS _ _ ?_)
  exact ⟨HW.out.1, Fr.of _ rfl ⟨rfl, trivial⟩⟩

set_option maxRecDepth 100000 in
set_option maxHeartbeats 1000000 in
theorem sp16 (w0 : World) (v : Value) (S : List SlD) (h : SlH w0 v S) : T3 Try.prog (fun a w => (Below w0.heap.size w0 w) ∧ Fr 39 [] a) (sel [1, 1, 1, 0] spP) (fun a w => (Below w0.heap.size w0 w) ∧ Fr 39 [(2, .int .i64 0)] a) No 9 (fun a w => Fr 39 [(2, .int .i64 (slotsE S))] a ∧ Below w0.heap.size w0 w) := by
  refine T3.leaf ?_
  rintro Q JS JX JT K hS hK hX hE hT hR a w ⟨hW, ⟨fr, rfl, _⟩⟩
  have HW := Lib.hid hW
  clear hW
  rw [fr_spP]
  conv => arg 2; whnf
  go_wp2_with fail
  refine Met.intro (hS _ _ ?_)
  exact ⟨HW.out, Fr.of _ rfl ⟨rfl, trivial⟩⟩

set_option maxRecDepth 100000 in
set_option maxHeartbeats 1000000 in
theorem spb (w0 : World) (v : Value) (S : List SlD) (h : SlH w0 v S) (hN : SlN S) (k : Int) : T3 Try.prog (fun a w => ((0 ≤ k ∧ k < S.length) ∧ NoErr (slotAt S) k) ∧ (Below w0.heap.size w0 w) ∧ Fr 39 [(0, v), (14, v), (15, .int .i64 S.length), (16, .int .i64 k)] a) (sel [1, 1, 0, 1, 4, 4, 1, 1, 0] spP) (fun a w => ((0 ≤ k ∧ k < S.length) ∧ NoErr (slotAt S) (k + 1)) ∧ (Below w0.heap.size w0 w) ∧ Fr 39 [(0, v), (14, v), (15, .int .i64 S.length), (16, .int .i64 k)] a) No 100 (fun a w => Fr 39 [(2, .int .i64 (slotsE S))] a ∧ Below w0.heap.size w0 w) := by
  refine T3.block (id' := 2) (c := (sel [1, 1, 0, 1, 4, 4, 1, 1, 0, 4] spP)) (by decide) ?_
  refine T3.seq (s := (sel [1, 1, 0, 1, 4, 4, 1, 1, 0, 4, 0] spP)) (c := (sel [1, 1, 0, 1, 4, 4, 1, 1, 0, 4, 1] spP)) ((sp7 w0 v S h hN k).noX) (T3.ex fun g4 => ?_)
  refine T3.seq (s := (sel [1, 1, 0, 1, 4, 4, 1, 1, 0, 4, 1, 0] spP)) (c := (sel [1, 1, 0, 1, 4, 4, 1, 1, 0, 4, 1, 1] spP)) (S := fun a w => (keyB (geta S k).key = true ∧ slotDup S k = false) ∧ ((0 ≤ k ∧ k < S.length) ∧ NoErr (slotAt S) k) ∧ (Below w0.heap.size w0 w ∧ SlB w g4 (geta S k)) ∧ Fr 39 [(0, v), (3, .int .i64 k), (4, .pointer (some ⟨g4, 0, none⟩)), (14, v), (15, .int .i64 S.length), (16, .int .i64 k)] a) ?_ (T3.pure fun hkd => ?_)
  · refine T3.block (id' := 3) (c := (sel [1, 1, 0, 1, 4, 4, 1, 1, 0, 4, 1, 0, 4] spP)) (by decide) ?_
    refine T3.test (s := (sel [1, 1, 0, 1, 4, 4, 1, 1, 0, 4, 1, 0, 4, 0] spP)) (x := (sel [1, 1, 0, 1, 4, 4, 1, 1, 0, 4, 1, 0, 4, 1, 2] spP)) (y := (sel [1, 1, 0, 1, 4, 4, 1, 1, 0, 4, 1, 0, 4, 1, 3] spP)) (C := fun q => (((0 ≤ k ∧ k < S.length) ∧ NoErr (slotAt S) k) ∧ q = !keyB (geta S k).key)) (W := fun w => Below w0.heap.size w0 w ∧ SlB w g4 (geta S k)) (by decide) ((sp8 w0 v S h hN k g4).noX) ?_ ?_
    · refine T3.seq (s := (sel [1, 1, 0, 1, 4, 4, 1, 1, 0, 4, 1, 0, 4, 1, 2, 0] spP)) (c := .ret) (t3x (p := ((0 ≤ k ∧ k < S.length) ∧ NoErr (slotAt S) k) ∧ keyB (geta S k).key = false) ((sp9 w0 v S h hN k g4).noX) ?_) (T3.ret ?_)
      · rintro a w ⟨hF, ⟨hk, hq⟩, hW⟩
        exact ⟨⟨hk, by simpa using hq.symm⟩, hW, hF.tail⟩
      · rintro a w ⟨⟨hk, hne⟩, hW, hF⟩
        have e : slotAt S k = 5 := by unfold slotAt; rw [if_pos hne]
        exact ⟨by rw [slotsE_hit hN hk.1.1 hk.1.2 hk.2 (by rw [e]; decide), e]; exact hF, hW⟩
    · refine T3.pre (R := fun a w => (keyB (geta S k).key = true) ∧ ((0 ≤ k ∧ k < S.length) ∧ NoErr (slotAt S) k) ∧ (Below w0.heap.size w0 w ∧ SlB w g4 (geta S k)) ∧ Fr 39 [(0, v), (3, .int .i64 k), (4, .pointer (some ⟨g4, 0, none⟩)), (14, v), (15, .int .i64 S.length), (16, .int .i64 k)] a) (T3.pure fun hky => ?_) (fun a w q => ⟨by simpa using q.1.2.symm, q.1.1, q.2.1, q.2.2⟩)
      refine T3.test (s := (sel [1, 1, 0, 1, 4, 4, 1, 1, 0, 4, 1, 0, 4, 1, 3, 0] spP)) (x := (sel [1, 1, 0, 1, 4, 4, 1, 1, 0, 4, 1, 0, 4, 1, 3, 1, 2] spP)) (y := .skip) (C := fun q => (((0 ≤ k ∧ k < S.length) ∧ NoErr (slotAt S) k) ∧ q = slotDup S k)) (W := fun w => Below w0.heap.size w0 w ∧ SlB w g4 (geta S k)) (by decide) ((sp10 w0 v S h hN k g4).noX) ?_ (T3.skip ?_)
      · refine T3.seq (s := (sel [1, 1, 0, 1, 4, 4, 1, 1, 0, 4, 1, 0, 4, 1, 3, 1, 2, 0] spP)) (c := .ret) (t3x (p := ((0 ≤ k ∧ k < S.length) ∧ NoErr (slotAt S) k) ∧ (keyB (geta S k).key = true ∧ slotDup S k = true)) ((sp11 w0 v S h hN k g4).noX) ?_) (T3.ret ?_)
        · rintro a w ⟨hF, ⟨hk, hq⟩, hW⟩
          exact ⟨⟨hk, hky, hq.symm⟩, hW, hF.tail⟩
        · rintro a w ⟨⟨hk, hne⟩, hW, hF⟩
          have e : slotAt S k = 6 := by unfold slotAt; rw [if_neg (by rw [hne.1]; decide), if_pos hne.2]
          exact ⟨by rw [slotsE_hit hN hk.1.1 hk.1.2 hk.2 (by rw [e]; decide), e]; exact hF, hW⟩
      · rintro a w ⟨⟨hk, hq⟩, hW, hF⟩
        exact ⟨⟨hky, hq.symm⟩, hk, hW, hF⟩
  refine T3.seq (s := (sel [1, 1, 0, 1, 4, 4, 1, 1, 0, 4, 1, 1, 0] spP)) (c := (sel [1, 1, 0, 1, 4, 4, 1, 1, 0, 4, 1, 1, 1] spP)) ((sp12 w0 v S h hN k g4).noX) ?_
  refine T3.test (s := (sel [1, 1, 0, 1, 4, 4, 1, 1, 0, 4, 1, 1, 1, 0] spP)) (x := (sel [1, 1, 0, 1, 4, 4, 1, 1, 0, 4, 1, 1, 1, 1, 2] spP)) (y := .skip) (C := fun q => (((0 ≤ k ∧ k < S.length) ∧ NoErr (slotAt S) k) ∧ q = (posE (geta S k).ps != 0))) (W := fun w => Below w0.heap.size w0 w ∧ SlB w g4 (geta S k)) (by decide) ((sp13 w0 v S h hN k g4).noX) ?_ (T3.skip ?_)
  · refine T3.seq (s := (sel [1, 1, 0, 1, 4, 4, 1, 1, 0, 4, 1, 1, 1, 1, 2, 0] spP)) (c := .ret) (t3x (p := ((0 ≤ k ∧ k < S.length) ∧ NoErr (slotAt S) k) ∧ (keyB (geta S k).key = true ∧ slotDup S k = false ∧ posE (geta S k).ps ≠ 0)) ((sp14 w0 v S h hN k g4).noX) ?_) (T3.ret ?_)
    · rintro a w ⟨hF, ⟨hk, hq⟩, hW⟩
      exact ⟨⟨hk, hkd.1, hkd.2, by simpa using hq.symm⟩, hW, hF.tail⟩
    · rintro a w ⟨⟨hk, hne⟩, hW, hF⟩
      have e : slotAt S k = posE (geta S k).ps := by unfold slotAt; rw [if_neg (by rw [hne.1]; decide), if_neg (by rw [hne.2.1]; decide)]
      exact ⟨by rw [slotsE_hit hN hk.1.1 hk.1.2 hk.2 (by rw [e]; exact hne.2.2), e]; exact hF, hW⟩
  · rintro a w ⟨⟨hk, hq⟩, hW, hF⟩
    refine ⟨⟨hk.1, hk.2.step ?_⟩, hW.1, hF.sub (by simp)⟩
    unfold slotAt
    rw [if_neg (by rw [hkd.1]; decide), if_neg (by rw [hkd.2]; decide)]
    simpa using hq.symm

def spLI (w0 : World) (v : Value) (S : List SlD) (h : SlH w0 v S) (hN : SlN S) (k : Int) (a : Act) (w : World) : Prop := (0 ≤ k ∧ k ≤ S.length) ∧ (NoErr (slotAt S) k) ∧ (Below w0.heap.size w0 w) ∧ Fr 39 [(0, v), (14, v), (15, .int .i64 S.length), (16, .int .i64 k)] a
set_option maxRecDepth 100000 in
set_option maxHeartbeats 1000000 in
theorem spLt (w0 : World) (v : Value) (S : List SlD) (h : SlH w0 v S) (hN : SlN S) (k : Int) : T3 Try.prog (fun a w => spLI w0 v S h hN k a w) (sel [1, 1, 0, 1, 4, 4, 0] spP) (fun a w => ∃ q, Fr 39 ((17, .bool q) :: [(16, .int .i64 k)]) a ∧ ((q = true ↔ k < S.length) ∧ spLI w0 v S h hN k a w)) No 9 (fun a w => Fr 39 [(2, .int .i64 (slotsE S))] a ∧ Below w0.heap.size w0 w) := by
  refine T3.leaf ?_
  rintro Q JS JX JT K hS hK hX hE hT hR a w ⟨hk, hpre, hW, ⟨fr, rfl, q0, q14, q15, q16, _⟩⟩
  have hln := h.n
  rw [fr_spP, show fr 0 = _ from q0, show fr 14 = _ from q14, show fr 15 = _ from q15, show fr 16 = _ from q16]
  clear q0 q14 q15 q16
  conv => arg 2; whnf
  by_cases hlt : k < S.length
  · go_wp2_with fail
    refine Met.intro (hS _ _ ?_)
    exact ⟨true, Fr.of _ rfl ⟨rfl, rfl, trivial⟩, ⟨fun _ => hlt, fun _ => rfl⟩, hk, hpre, hW, Fr.of _ rfl ⟨rfl, rfl, rfl, rfl, trivial⟩⟩
  · have hpb : decide (k < (S.length : Int)) = false := by simp; omega
    go_wp2_with fail
    refine Met.intro (hS _ _ ?_)
    exact ⟨false, Fr.of _ rfl ⟨rfl, rfl, trivial⟩, ⟨(fun h => by cases h), fun h => absurd h (by omega)⟩, hk, hpre, hW, Fr.of _ rfl ⟨rfl, rfl, rfl, rfl, trivial⟩⟩

set_option maxRecDepth 100000 in
set_option maxHeartbeats 1000000 in
theorem spLn (w0 : World) (v : Value) (S : List SlD) (h : SlH w0 v S) (hN : SlN S) (k : Int) : T3 Try.prog (fun a w => (0 ≤ k ∧ k < S.length) ∧ (NoErr (slotAt S) (k + 1)) ∧ (Below w0.heap.size w0 w) ∧ Fr 39 [(0, v), (14, v), (15, .int .i64 S.length), (16, .int .i64 k)] a) (sel [1, 1, 0, 1, 4, 4, 1, 1, 1] spP) (fun a w => spLI w0 v S h hN (k + 1) a w) No 9 (fun a w => Fr 39 [(2, .int .i64 (slotsE S))] a ∧ Below w0.heap.size w0 w) := by
  refine T3.leaf ?_
  rintro Q JS JX JT K hS hK hX hE hT hR a w ⟨hk, hpre, hW, ⟨fr, rfl, q0, q14, q15, q16, _⟩⟩
  obtain ⟨hk0, hk1⟩ := hk
  have hln := h.n
  rw [fr_spP, show fr 0 = _ from q0, show fr 14 = _ from q14, show fr 15 = _ from q15, show fr 16 = _ from q16]
  clear q0 q14 q15 q16
  conv => arg 2; whnf
  go_wp2_with fail
  refine Met.intro (hS _ _ ?_)
  exact ⟨⟨by omega, by omega⟩, hpre, hW, Fr.of _ rfl ⟨rfl, rfl, rfl, rfl, trivial⟩⟩

set_option maxRecDepth 100000 in
set_option maxHeartbeats 1000000 in
theorem spLloop (w0 : World) (v : Value) (S : List SlD) (h : SlH w0 v S) (hN : SlN S) : T3 Try.prog (fun a w => spLI w0 v S h hN 0 a w) (sel [1, 1, 0, 1] spP) (fun a w => (NoErr (slotAt S) S.length) ∧ (Below w0.heap.size w0 w) ∧ Fr 39 [] a) No 9 (fun a w => Fr 39 [(2, .int .i64 (slotsE S))] a ∧ Below w0.heap.size w0 w) := by
  refine T3.loop (c := (sel [1, 1, 0, 1, 4, 4] spP)) (fun ng_ a w => ∃ k : Int, (ng_ : Int) = S.length - k ∧ spLI w0 v S h hN k a w) (fun a w h => ⟨(S.length : Int).toNat, 0, by have := h.1.2; omega, h⟩) (fun ng_ => T3.ex fun k => T3.pure fun hng_ => ?_)
  refine T3.seq (s := (sel [1, 1, 0, 1, 4, 4, 0] spP)) (c := (sel [1, 1, 0, 1, 4, 4, 1] spP)) ((spLt w0 v S h hN k).noX) ?_
  refine T3.seq (s := (sel [1, 1, 0, 1, 4, 4, 1, 0] spP)) (c := (sel [1, 1, 0, 1, 4, 4, 1, 1] spP)) (S := fun a w => (0 ≤ k ∧ k < S.length) ∧ (NoErr (slotAt S) k) ∧ (Below w0.heap.size w0 w) ∧ Fr 39 [(0, v), (14, v), (15, .int .i64 S.length), (16, .int .i64 k)] a) ?_ (T3.seq (s := (sel [1, 1, 0, 1, 4, 4, 1, 1, 0] spP)) (c := (sel [1, 1, 0, 1, 4, 4, 1, 1, 1] spP)) (S := fun a w => (0 ≤ k ∧ k < S.length) ∧ (NoErr (slotAt S) (k + 1)) ∧ (Below w0.heap.size w0 w) ∧ Fr 39 [(0, v), (14, v), (15, .int .i64 S.length), (16, .int .i64 k)] a) (T3.noX (T3.mono (R' := fun a w => (0 ≤ k ∧ k < S.length) ∧ (NoErr (slotAt S) k) ∧ (Below w0.heap.size w0 w) ∧ Fr 39 [(0, v), (14, v), (15, .int .i64 S.length), (16, .int .i64 k)] a) (S' := fun a w => (0 ≤ k ∧ k < S.length) ∧ (NoErr (slotAt S) (k + 1)) ∧ (Below w0.heap.size w0 w) ∧ Fr 39 [(0, v), (14, v), (15, .int .i64 S.length), (16, .int .i64 k)] a) (spb w0 v S h hN k) (fun a w ⟨hk, hp, hI⟩ => ⟨⟨hk, hp⟩, hI⟩) (fun a w ⟨⟨hk, hp⟩, hI⟩ => ⟨hk, hp, hI⟩) (fun _ _ q => q) (fun _ _ q => q))) ?_)
  · refine T3.cond (o := .tmp 17) (x := .skip) (y := .exit 1) (fun a w => k < S.length ∧ spLI w0 v S h hN k a w) (fun a w => ¬ k < S.length ∧ spLI w0 v S h hN k a w) ?_ (T3.skip ?_) (T3.exit ?_)
    · rintro a w ⟨q, hF, hq, hI⟩
      have he := hF.eval 17 (by decide) (v := .bool q) (by simp)
      cases q
      · exact .inr ⟨he, (fun h => by have := hq.2 h; cases this), hI⟩
      · exact .inl ⟨he, hq.1 rfl, hI⟩
    · rintro a w ⟨hlt, hk, hI⟩
      exact ⟨⟨hk.1, hlt⟩, hI⟩
    · rintro a w ⟨hlt, hk, hI⟩
      obtain rfl : k = S.length := by omega
      obtain ⟨hn, hW, hF⟩ := hI
      exact ⟨hn, hW, hF.sub (by simp)⟩
  · intro a w hx
    have hk := hx.1
    exact (((spLn w0 v S h hN k).noX).post (fun a w q => ⟨ng_ - 1, by omega, k + 1, by omega, q⟩)) a w hx
set_option maxRecDepth 100000 in
set_option maxHeartbeats 1000000 in
theorem sp_all (w0 : World) (v : Value) (S : List SlD) (h : SlH w0 v S) : T3 Try.prog (fun a w => (Below w0.heap.size w0 w) ∧ Fr 39 [(0, v)] a) spP No No 9 (fun a w => Fr 39 [(2, .int .i64 (slotsE S))] a ∧ Below w0.heap.size w0 w) := by
  refine T3.seq (s := (sel [0] spP)) (c := (sel [1] spP)) (sp0 w0 v S h) ?_
  refine T3.seq (s := (sel [1, 0] spP)) (c := (sel [1, 1] spP)) (S := fun a w => (SlN S) ∧ (Below w0.heap.size w0 w) ∧ Fr 39 [(0, v)] a) ?_ (T3.pure fun hN => ?_)
  · refine T3.block (id' := 0) (c := (sel [1, 0, 4] spP)) (by decide) ?_
    refine T3.test (s := (sel [1, 0, 4, 0] spP)) (x := (sel [1, 0, 4, 1, 2] spP)) (y := (sel [1, 0, 4, 1, 3] spP)) (C := fun q => (q = ((S.length : Int) == 0))) (W := fun w => Below w0.heap.size w0 w) (by decide) ((sp1 w0 v S h).noX) ?_ ?_
    · refine T3.seq (s := (sel [1, 0, 4, 1, 2, 0] spP)) (c := .ret) (t3x (p := S.length = 0) ((sp2 w0 v S h).noX) ?_) (T3.ret ?_)
      · rintro a w ⟨hF, hq, hW⟩
        exact ⟨by have := hq.symm; simpa using this, hW, hF.tail⟩
      · rintro a w ⟨hp, hW, hF⟩
        exact ⟨by rw [slotsE_none hp]; exact hF, hW⟩
    · refine T3.pre (R := fun a w => (S.length ≠ 0) ∧ (Below w0.heap.size w0 w) ∧ Fr 39 [(0, v)] a) (T3.pure fun hl => ?_) (fun a w q => ⟨by have := q.1.symm; simpa using this, q.2⟩)
      refine T3.test (s := (sel [1, 0, 4, 1, 3, 0] spP)) (x := (sel [1, 0, 4, 1, 3, 1, 2] spP)) (y := .skip) (C := fun q => (q = decide ((12 : Int) < (S.length : Int)))) (W := fun w => Below w0.heap.size w0 w) (by decide) ((sp3 w0 v S h).noX) ?_ (T3.skip ?_)
      · refine T3.seq (s := (sel [1, 0, 4, 1, 3, 1, 2, 0] spP)) (c := .ret) (t3x (p := 12 < S.length) ((sp4 w0 v S h).noX) ?_) (T3.ret ?_)
        · rintro a w ⟨hF, hq, hW⟩
          exact ⟨by have := of_decide_eq_true hq.symm; omega, hW, hF.tail⟩
        · rintro a w ⟨hp, hW, hF⟩
          exact ⟨by rw [slotsE_big hl hp]; exact hF, hW⟩
      · rintro a w ⟨hq, hW, hF⟩
        exact ⟨⟨hl, by have := of_decide_eq_false hq.symm; omega⟩, hW, hF⟩
  refine T3.seq (s := (sel [1, 1, 0] spP)) (c := (sel [1, 1, 1] spP)) (T3.seq (s := (sel [1, 1, 0, 0] spP)) (c := (sel [1, 1, 0, 1] spP)) (sp5 w0 v S h hN) (spLloop w0 v S h hN)) (T3.pure fun hn => ?_)
  refine T3.seq (s := (sel [1, 1, 1, 0] spP)) (c := .ret) (sp16 w0 v S h) (T3.ret ?_)
  rintro a w ⟨hW, hF⟩
  exact ⟨by rw [slotsE_ok hN hn]; exact hF, hW⟩

set_option maxRecDepth 100000 in
set_option maxHeartbeats 1000000 in
theorem slots_prog (w0 : World) (v : Value) (S : List SlD) (h : SlH w0 v S) : Calls Try.prog 66 #[v] w0 fun e w' => e = .returned (.int .i64 (slotsE S)) ∧ Below w0.heap.size w0 w' := by
  have hall := sp_all w0 v S h
  go_enter Try.func66, Try.ntmps66
  refine T3.done (s := spP) hall ⟨Below.refl _ _, Fr.of _ rfl ⟨rfl, trivial⟩⟩ ?_
  rintro a w ⟨⟨fr, rfl, q2, _⟩, hw⟩
  rw [fr_spP, show fr 2 = _ from q2]
  go_ret
  exact ⟨rfl, hw⟩
noncomputable def srR : Code := (Try.f8.body).getD .skip
set_option maxRecDepth 100000 in
theorem fr_srR (f : Nat → Value) : frame 37 f = ⟨#[f 0, f 1, f 2, f 3, f 4, f 5, f 6, f 7, f 8, f 9, f 10, f 11, f 12, f 13, f 14, f 15, f 16, f 17, f 18, f 19, f 20, f 21, f 22, f 23, f 24, f 25, f 26, f 27, f 28, f 29, f 30, f 31, f 32, f 33, f 34, f 35, f 36], []⟩ := by rfl
set_option maxRecDepth 100000 in
set_option maxHeartbeats 1000000 in
theorem sr0 (w0 : World) (v : Value) (S : List SlD) (h : SlH w0 v S) : T3 Try.prog (fun a w => (Below w0.heap.size w0 w) ∧ Fr 37 [(0, v)] a) (sel [0] srR) (fun a w => (Below w0.heap.size w0 w) ∧ Fr 37 [(0, v)] a) No 9 (fun a w => Fr 37 [(2, .int .i64 (slotsE S))] a ∧ Below w0.heap.size w0 w) := by
  refine T3.leaf ?_
  rintro Q JS JX JT K hS hK hX hE hT hR a w ⟨hW, ⟨fr, rfl, q0, _⟩⟩
  have HW := Lib.hid hW
  have hsn := h.n
  obtain ⟨p1, c1, hv1⟩ := h.r.shape
  subst hv1
  clear hW
  rw [fr_srR, show fr 0 = _ from q0]
  clear q0
  conv => arg 2; whnf
  go_wp2_with fail
  refine Met.intro (hS _ _ ?_)
  exact ⟨HW.out, Fr.of _ rfl ⟨rfl, trivial⟩⟩

set_option maxRecDepth 100000 in
set_option maxHeartbeats 1000000 in
theorem sr1 (w0 : World) (v : Value) (S : List SlD) (h : SlH w0 v S) : T3 Try.prog (fun a w => (Below w0.heap.size w0 w) ∧ Fr 37 [(0, v)] a) (sel [1, 0, 4, 0] srR) (fun a w => ∃ q, Fr 37 ((6, .bool q) :: [(0, v)]) a ∧ ((q = ((S.length : Int) == 0)) ∧ Below w0.heap.size w0 w)) No 9 (fun a w => Fr 37 [(2, .int .i64 (slotsE S))] a ∧ Below w0.heap.size w0 w) := by
  refine T3.leaf ?_
  rintro Q JS JX JT K hS hK hX hE hT hR a w ⟨hW, ⟨fr, rfl, q0, _⟩⟩
  have HW := Lib.hid hW
  have hsn := h.n
  obtain ⟨p1, c1, hv1⟩ := h.r.shape
  subst hv1
  clear hW
  generalize hq : ((S.length : Int) == 0) = q at *
  rw [fr_srR, show fr 0 = _ from q0]
  clear q0
  conv => arg 2; whnf
  go_wp2_with fail
  refine Met.intro (hS _ _ ?_)
  exact ⟨_, Fr.of _ rfl ⟨rfl, rfl, trivial⟩, rfl, HW.out⟩

set_option maxRecDepth 100000 in
set_option maxHeartbeats 1000000 in
theorem sr2 (w0 : World) (v : Value) (S : List SlD) (h : SlH w0 v S) : T3 Try.prog (fun a w => (Below w0.heap.size w0 w) ∧ Fr 37 [(0, v)] a) (sel [1, 0, 4, 1, 2, 0] srR) (fun a w => (Below w0.heap.size w0 w) ∧ Fr 37 [(2, .int .i64 8)] a) No 9 (fun a w => Fr 37 [(2, .int .i64 (slotsE S))] a ∧ Below w0.heap.size w0 w) := by
  refine T3.leaf ?_
  rintro Q JS JX JT K hS hK hX hE hT hR a w ⟨hW, ⟨fr, rfl, q0, _⟩⟩
  have HW := Lib.hid hW
  have hsn := h.n
  obtain ⟨p1, c1, hv1⟩ := h.r.shape
  subst hv1
  clear hW
  rw [fr_srR, show fr 0 = _ from q0]
  clear q0
  conv => arg 2; whnf
  go_wp2_with fail
  refine Met.intro (hS _ _ ?_)
  exact ⟨HW.out, Fr.of _ rfl ⟨rfl, trivial⟩⟩

set_option maxRecDepth 100000 in
set_option maxHeartbeats 1000000 in
theorem sr3 (w0 : World) (v : Value) (S : List SlD) (h : SlH w0 v S) : T3 Try.prog (fun a w => (Below w0.heap.size w0 w) ∧ Fr 37 [(0, v)] a) (sel [1, 0, 4, 1, 3, 0] srR) (fun a w => ∃ q, Fr 37 ((10, .bool q) :: [(0, v)]) a ∧ ((q = decide ((12 : Int) < (S.length : Int))) ∧ Below w0.heap.size w0 w)) No 9 (fun a w => Fr 37 [(2, .int .i64 (slotsE S))] a ∧ Below w0.heap.size w0 w) := by
  refine T3.leaf ?_
  rintro Q JS JX JT K hS hK hX hE hT hR a w ⟨hW, ⟨fr, rfl, q0, _⟩⟩
  have HW := Lib.hid hW
  have hsn := h.n
  obtain ⟨p1, c1, hv1⟩ := h.r.shape
  subst hv1
  clear hW
  rw [fr_srR, show fr 0 = _ from q0]
  clear q0
  conv => arg 2; whnf
  go_wp2_with fail
  refine Met.intro (hS _ _ ?_)
  exact ⟨_, Fr.of _ rfl ⟨rfl, rfl, trivial⟩, rfl, HW.out⟩

set_option maxRecDepth 100000 in
set_option maxHeartbeats 1000000 in
theorem sr4 (w0 : World) (v : Value) (S : List SlD) (h : SlH w0 v S) : T3 Try.prog (fun a w => (Below w0.heap.size w0 w) ∧ Fr 37 [(0, v)] a) (sel [1, 0, 4, 1, 3, 1, 2, 0] srR) (fun a w => (Below w0.heap.size w0 w) ∧ Fr 37 [(2, .int .i64 2)] a) No 9 (fun a w => Fr 37 [(2, .int .i64 (slotsE S))] a ∧ Below w0.heap.size w0 w) := by
  refine T3.leaf ?_
  rintro Q JS JX JT K hS hK hX hE hT hR a w ⟨hW, ⟨fr, rfl, q0, _⟩⟩
  have HW := Lib.hid hW
  have hsn := h.n
  obtain ⟨p1, c1, hv1⟩ := h.r.shape
  subst hv1
  clear hW
  rw [fr_srR, show fr 0 = _ from q0]
  clear q0
  conv => arg 2; whnf
  go_wp2_with fail
  refine Met.intro (hS _ _ ?_)
  exact ⟨HW.out, Fr.of _ rfl ⟨rfl, trivial⟩⟩

set_option maxRecDepth 100000 in
set_option maxHeartbeats 1000000 in
theorem sr5 (w0 : World) (v : Value) (S : List SlD) (h : SlH w0 v S) (hN : SlN S) : T3 Try.prog (fun a w => (Below w0.heap.size w0 w) ∧ Fr 37 [(0, v)] a) (sel [1, 1, 0, 0] srR) (fun a w => (0 ≤ (0 : Int) ∧ (0 : Int) ≤ S.length) ∧ (NoErr (slotAt S) 0) ∧ (Below w0.heap.size w0 w) ∧ Fr 37 [(0, v), (14, v), (15, .int .i64 S.length), (16, .int .i64 0)] a) No 9 (fun a w => Fr 37 [(2, .int .i64 (slotsE S))] a ∧ Below w0.heap.size w0 w) := by
  refine T3.leaf ?_
  rintro Q JS JX JT K hS hK hX hE hT hR a w ⟨hW, ⟨fr, rfl, q0, _⟩⟩
  have HW := Lib.hid hW
  have hsn := h.n
  obtain ⟨p1, c1, hv1⟩ := h.r.shape
  subst hv1
  clear hW
  rw [fr_srR, show fr 0 = _ from q0]
  clear q0
  conv => arg 2; whnf
  go_wp2_with fail
  refine Met.intro (hS _ _ ?_)
  exact ⟨⟨by omega, by omega⟩, NoErr.zero _, HW.out, Fr.of _ rfl ⟨rfl, rfl, rfl, rfl, trivial⟩⟩

set_option maxRecDepth 100000 in
set_option maxHeartbeats 1000000 in
theorem sr7 (w0 : World) (v : Value) (S : List SlD) (h : SlH w0 v S) (hN : SlN S) (k : Int) : T3 Try.prog (fun a w => ((0 ≤ k ∧ k < S.length) ∧ NoErr (slotAt S) k) ∧ (Below w0.heap.size w0 w) ∧ Fr 37 [(0, v), (14, v), (15, .int .i64 S.length), (16, .int .i64 k)] a) (sel [1, 1, 0, 1, 4, 4, 1, 1, 0, 4, 0] srR) (fun a w => ∃ (g4 : Nat), ((0 ≤ k ∧ k < S.length) ∧ NoErr (slotAt S) k) ∧ (Below w0.heap.size w0 w ∧ SlB w g4 (geta S k)) ∧ Fr 37 [(0, v), (3, .int .i64 k), (4, .pointer (some ⟨g4, 0, none⟩)), (14, v), (15, .int .i64 S.length), (16, .int .i64 k)] a) No 9 (fun a w => Fr 37 [(2, .int .i64 (slotsE S))] a ∧ Below w0.heap.size w0 w) := by
  refine T3.leaf ?_
  rintro Q JS JX JT K hS hK hX hE hT hR a w ⟨hpre, hW, ⟨fr, rfl, q0, q14, q15, q16, _⟩⟩
  have hpp := Lib.hid hpre
  obtain ⟨⟨hk0, hk1⟩, _⟩ := hpre
  have hsn := h.n
  have hHW := Lib.hid hW
  obtain ⟨_, hcs⟩ := (h.below hW).r.els encSl_length (by decide)
  rcases hcs with ⟨rfl, h0⟩ | ⟨bz, off, cap, rfl, _, hbz, hnc, hcm, hcell⟩
  · omega
  have t0 := hcell k hk0 hk1 0 _ rfl
  have t1 := hcell k hk0 hk1 1 _ rfl
  rw [Nat.add_zero] at t0
  have HB := Lib.hid (SlB.new w (geta S k) 55)
  have HA := Lib.hid (fun o => (Below.refl w.heap.size w).alloc (Nat.le_refl _) o)
  obtain ⟨q, d, hq⟩ := (h.p _ (geta_mem hk0 hk1)).r.shape
  clear hcell hW h
  generalize geta S k = x at *
  obtain ⟨xk, xv, xps⟩ := x
  simp only at hq t0 t1
  subst hq
  rw [fr_srR, show fr 0 = _ from q0, show fr 14 = _ from q14, show fr 15 = _ from q15, show fr 16 = _ from q16]
  clear q0 q14 q15 q16
  conv => arg 2; whnf
  go_wp2_with fail
  refine Met.intro (hS _ _ ?_)
  exact ⟨_, hpp.out, ⟨hHW.out.trans ((HA.out _).mono hHW.out.size), HB.out⟩, Fr.of _ rfl ⟨rfl, rfl, rfl, rfl, rfl, rfl, trivial⟩⟩

set_option maxRecDepth 100000 in
set_option maxHeartbeats 1000000 in
theorem sr8 (w0 : World) (v : Value) (S : List SlD) (h : SlH w0 v S) (hN : SlN S) (k : Int) (g4 : Nat) : T3 Try.prog (fun a w => ((0 ≤ k ∧ k < S.length) ∧ NoErr (slotAt S) k) ∧ (Below w0.heap.size w0 w ∧ SlB w g4 (geta S k)) ∧ Fr 37 [(0, v), (3, .int .i64 k), (4, .pointer (some ⟨g4, 0, none⟩)), (14, v), (15, .int .i64 S.length), (16, .int .i64 k)] a) (sel [1, 1, 0, 1, 4, 4, 1, 1, 0, 4, 1, 0, 0] srR) (fun a w => ∃ q, Fr 37 ((24, .bool q) :: [(0, v), (3, .int .i64 k), (4, .pointer (some ⟨g4, 0, none⟩)), (14, v), (15, .int .i64 S.length), (16, .int .i64 k)]) a ∧ ((((0 ≤ k ∧ k < S.length) ∧ NoErr (slotAt S) k) ∧ q = !keyB (geta S k).key) ∧ Below w0.heap.size w0 w ∧ SlB w g4 (geta S k))) No 9 (fun a w => Fr 37 [(2, .int .i64 (slotsE S))] a ∧ Below w0.heap.size w0 w) := by
  refine T3.leaf ?_
  rintro Q JS JX JT K hS hK hX hE hT hR a w ⟨hpre, hW, ⟨fr, rfl, q0, q3, q4, q14, q15, q16, _⟩⟩
  have hpp := Lib.hid hpre
  obtain ⟨⟨hk0, hk1⟩, _⟩ := hpre
  have hsn := h.n
  have HW := Lib.hid hW
  have hz := h.z _ (geta_mem hk0 hk1)
  have HK := Lib.hid (key_ref (geta S k).key w (by omega))
  have t0 := hW.2.c0
  obtain ⟨p1, c1, hv1⟩ := h.r.shape
  subst hv1
  clear h hW hz
  generalize (geta S k).key = x at *
  generalize keyB x = q at *
  rw [fr_srR, show fr 0 = _ from q0, show fr 3 = _ from q3, show fr 4 = _ from q4, show fr 14 = _ from q14, show fr 15 = _ from q15, show fr 16 = _ from q16]
  clear q0 q3 q4 q14 q15 q16
  conv => arg 2; whnf
  go_wp2_with fail
  refine HK.out.mono ?_
  rintro e w1 ⟨rfl, rfl⟩
  go_wp2_with fail
  have hpre := hpp.out
  refine Met.intro (hS _ _ ?_)
  exact ⟨_, Fr.of _ rfl ⟨rfl, rfl, rfl, rfl, rfl, rfl, rfl, trivial⟩, ⟨hpre, rfl⟩, HW.out⟩

set_option maxRecDepth 100000 in
set_option maxHeartbeats 1000000 in
theorem sr9 (w0 : World) (v : Value) (S : List SlD) (h : SlH w0 v S) (hN : SlN S) (k : Int) (g4 : Nat) : T3 Try.prog (fun a w => (Below w0.heap.size w0 w ∧ SlB w g4 (geta S k)) ∧ Fr 37 [(0, v), (3, .int .i64 k), (4, .pointer (some ⟨g4, 0, none⟩)), (14, v), (15, .int .i64 S.length), (16, .int .i64 k)] a) (sel [1, 1, 0, 1, 4, 4, 1, 1, 0, 4, 1, 0, 1, 2, 0] srR) (fun a w => (Below w0.heap.size w0 w) ∧ Fr 37 [(2, .int .i64 5)] a) No 9 (fun a w => Fr 37 [(2, .int .i64 (slotsE S))] a ∧ Below w0.heap.size w0 w) := by
  refine T3.leaf ?_
  rintro Q JS JX JT K hS hK hX hE hT hR a w ⟨hW, ⟨fr, rfl, q0, q3, q4, q14, q15, q16, _⟩⟩
  have HW := Lib.hid hW
  clear hW
  obtain ⟨p1, c1, hv1⟩ := h.r.shape
  subst hv1
  rw [fr_srR, show fr 0 = _ from q0, show fr 3 = _ from q3, show fr 4 = _ from q4, show fr 14 = _ from q14, show fr 15 = _ from q15, show fr 16 = _ from q16]
  clear q0 q3 q4 q14 q15 q16
  conv => arg 2; whnf
  go_wp2_with fail
  refine Met.intro (hS _ _ ?_)
  exact ⟨HW.out.1, Fr.of _ rfl ⟨rfl, trivial⟩⟩

set_option maxRecDepth 100000 in
set_option maxHeartbeats 1000000 in
theorem sr10 (w0 : World) (v : Value) (S : List SlD) (h : SlH w0 v S) (hN : SlN S) (k : Int) (g4 : Nat) : T3 Try.prog (fun a w => ((0 ≤ k ∧ k < S.length) ∧ NoErr (slotAt S) k) ∧ (Below w0.heap.size w0 w ∧ SlB w g4 (geta S k)) ∧ Fr 37 [(0, v), (3, .int .i64 k), (4, .pointer (some ⟨g4, 0, none⟩)), (14, v), (15, .int .i64 S.length), (16, .int .i64 k)] a) (sel [1, 1, 0, 1, 4, 4, 1, 1, 0, 4, 1, 1, 0, 0] srR) (fun a w => ∃ q, Fr 37 ((29, .bool q) :: [(0, v), (3, .int .i64 k), (4, .pointer (some ⟨g4, 0, none⟩)), (14, v), (15, .int .i64 S.length), (16, .int .i64 k)]) a ∧ ((((0 ≤ k ∧ k < S.length) ∧ NoErr (slotAt S) k) ∧ q = slotDup S k) ∧ Below w0.heap.size w0 w ∧ SlB w g4 (geta S k))) No 9 (fun a w => Fr 37 [(2, .int .i64 (slotsE S))] a ∧ Below w0.heap.size w0 w) := by
  refine T3.leaf ?_
  rintro Q JS JX JT K hS hK hX hE hT hR a w ⟨hpre, hW, ⟨fr, rfl, q0, q3, q4, q14, q15, q16, _⟩⟩
  have hpp := Lib.hid hpre
  obtain ⟨⟨hk0, hk1⟩, _⟩ := hpre
  have hsn := h.n
  have HW := Lib.hid hW
  have hR := (h.below hW.1).r
  have hb4 := hW.2.c0
  rcases hR.2 with ⟨hv, h0⟩ | ⟨bz, off, cap, hv, _, hbz, hnc, hcm, hcell⟩
  · omega
  subst hv
  simp only [maxLen] at hcm
  have HC := Lib.hid (any_sl 34 Try.call34 (.pointer (some ⟨g4, 0, none⟩)) _ (S.take k.toNat) (fun y => decide (y.key = (geta S k).key)) 0 w (Row.firstN encSl_length hR hk0 (by omega)) (by rw [List.length_take]; omega) (fun y _ w1 hb => cl_slF y.key y.pv (geta S k).key g4 w1 ((hb.cell (World.block_lt_of_cell? w _ hb4)).trans hb4)))
  have hbq : (0 : Int) ≤ k ∧ k ≤ S.length ∧ (S.length : Int) ≤ cap := by omega
  have HE := Lib.hid (show (S.take k.toNat).any (fun y => decide (y.key = (geta S k).key)) = slotDup S k from rfl)
  rw [HE.out] at HC
  clear hcell hR h hb4 hW
  generalize slotDup S k = q at *
  rw [fr_srR, show fr 0 = _ from q0, show fr 3 = _ from q3, show fr 4 = _ from q4, show fr 14 = _ from q14, show fr 15 = _ from q15, show fr 16 = _ from q16]
  clear q0 q3 q4 q14 q15 q16
  conv => arg 2; whnf
  go_wp2_with fail
  refine HC.out.mono ?_
  rintro e w1 ⟨rfl, hb⟩
  have HR := Lib.hid (show Below w0.heap.size w0 w1 ∧ SlB w1 g4 (geta S k) from ⟨HW.out.1.trans (hb.mono HW.out.1.size), HW.out.2.below hb⟩)
  clear hb
  go_wp2_with fail
  have hpre := hpp.out
  refine Met.intro (hS _ _ ?_)
  exact ⟨_, Fr.of _ rfl ⟨rfl, rfl, rfl, rfl, rfl, rfl, rfl, trivial⟩, ⟨hpre, rfl⟩, HR.out⟩

set_option maxRecDepth 100000 in
set_option maxHeartbeats 1000000 in
theorem sr11 (w0 : World) (v : Value) (S : List SlD) (h : SlH w0 v S) (hN : SlN S) (k : Int) (g4 : Nat) : T3 Try.prog (fun a w => (Below w0.heap.size w0 w ∧ SlB w g4 (geta S k)) ∧ Fr 37 [(0, v), (3, .int .i64 k), (4, .pointer (some ⟨g4, 0, none⟩)), (14, v), (15, .int .i64 S.length), (16, .int .i64 k)] a) (sel [1, 1, 0, 1, 4, 4, 1, 1, 0, 4, 1, 1, 0, 1, 2, 0] srR) (fun a w => (Below w0.heap.size w0 w) ∧ Fr 37 [(2, .int .i64 6)] a) No 9 (fun a w => Fr 37 [(2, .int .i64 (slotsE S))] a ∧ Below w0.heap.size w0 w) := by
  refine T3.leaf ?_
  rintro Q JS JX JT K hS hK hX hE hT hR a w ⟨hW, ⟨fr, rfl, q0, q3, q4, q14, q15, q16, _⟩⟩
  have HW := Lib.hid hW
  clear hW
  obtain ⟨p1, c1, hv1⟩ := h.r.shape
  subst hv1
  rw [fr_srR, show fr 0 = _ from q0, show fr 3 = _ from q3, show fr 4 = _ from q4, show fr 14 = _ from q14, show fr 15 = _ from q15, show fr 16 = _ from q16]
  clear q0 q3 q4 q14 q15 q16
  conv => arg 2; whnf
  go_wp2_with fail
  refine Met.intro (hS _ _ ?_)
  exact ⟨HW.out.1, Fr.of _ rfl ⟨rfl, trivial⟩⟩

set_option maxRecDepth 100000 in
set_option maxHeartbeats 1000000 in
theorem sr12 (w0 : World) (v : Value) (S : List SlD) (h : SlH w0 v S) (hN : SlN S) (k : Int) (g4 : Nat) : T3 Try.prog (fun a w => ((0 ≤ k ∧ k < S.length) ∧ NoErr (slotAt S) k) ∧ (Below w0.heap.size w0 w ∧ SlB w g4 (geta S k)) ∧ Fr 37 [(0, v), (3, .int .i64 k), (4, .pointer (some ⟨g4, 0, none⟩)), (14, v), (15, .int .i64 S.length), (16, .int .i64 k)] a) (sel [1, 1, 0, 1, 4, 4, 1, 1, 0, 4, 1, 1, 1, 0] srR) (fun a w => ((0 ≤ k ∧ k < S.length) ∧ NoErr (slotAt S) k) ∧ (Below w0.heap.size w0 w ∧ SlB w g4 (geta S k)) ∧ Fr 37 [(0, v), (3, .int .i64 k), (4, .pointer (some ⟨g4, 0, none⟩)), (5, .int .i64 (posE (geta S k).ps)), (14, v), (15, .int .i64 S.length), (16, .int .i64 k)] a) No 9 (fun a w => Fr 37 [(2, .int .i64 (slotsE S))] a ∧ Below w0.heap.size w0 w) := by
  refine T3.leaf ?_
  rintro Q JS JX JT K hS hK hX hE hT hR a w ⟨hpre, hW, ⟨fr, rfl, q0, q3, q4, q14, q15, q16, _⟩⟩
  have hpp := Lib.hid hpre
  obtain ⟨⟨hk0, hk1⟩, _⟩ := hpre
  have hsn := h.n
  have HW := Lib.hid hW
  have HK := Lib.hid (listNeed_ref (geta S k).pv (geta S k).ps w ((h.p _ (geta_mem hk0 hk1)).below hW.1))
  have t1 := hW.2.c1
  obtain ⟨q, d, hq⟩ := (h.p _ (geta_mem hk0 hk1)).r.shape
  obtain ⟨p1, c1, hv1⟩ := h.r.shape
  subst hv1
  clear h hW
  generalize posE (geta S k).ps = e0 at *
  generalize hx : (geta S k).pv = x at *
  subst hq
  rw [fr_srR, show fr 0 = _ from q0, show fr 3 = _ from q3, show fr 4 = _ from q4, show fr 14 = _ from q14, show fr 15 = _ from q15, show fr 16 = _ from q16]
  clear q0 q3 q4 q14 q15 q16
  conv => arg 2; whnf
  go_wp2_with fail
  refine HK.out.mono ?_
  rintro e w1 ⟨rfl, hb⟩
  have HR := Lib.hid (show Below w0.heap.size w0 w1 ∧ SlB w1 g4 (geta S k) from ⟨HW.out.1.trans (hb.mono HW.out.1.size), HW.out.2.below hb⟩)
  clear hb
  go_wp2_with fail
  refine Met.intro (hS _ _ ?_)
  exact ⟨hpp.out, HR.out, Fr.of _ rfl ⟨rfl, rfl, rfl, rfl, rfl, rfl, rfl, trivial⟩⟩

set_option maxRecDepth 100000 in
set_option maxHeartbeats 1000000 in
theorem sr13 (w0 : World) (v : Value) (S : List SlD) (h : SlH w0 v S) (hN : SlN S) (k : Int) (g4 : Nat) : T3 Try.prog (fun a w => ((0 ≤ k ∧ k < S.length) ∧ NoErr (slotAt S) k) ∧ (Below w0.heap.size w0 w ∧ SlB w g4 (geta S k)) ∧ Fr 37 [(0, v), (3, .int .i64 k), (4, .pointer (some ⟨g4, 0, none⟩)), (5, .int .i64 (posE (geta S k).ps)), (14, v), (15, .int .i64 S.length), (16, .int .i64 k)] a) (sel [1, 1, 0, 1, 4, 4, 1, 1, 0, 4, 1, 1, 1, 1, 0] srR) (fun a w => ∃ q, Fr 37 ((34, .bool q) :: [(0, v), (3, .int .i64 k), (4, .pointer (some ⟨g4, 0, none⟩)), (5, .int .i64 (posE (geta S k).ps)), (14, v), (15, .int .i64 S.length), (16, .int .i64 k)]) a ∧ ((((0 ≤ k ∧ k < S.length) ∧ NoErr (slotAt S) k) ∧ q = (posE (geta S k).ps != 0)) ∧ Below w0.heap.size w0 w ∧ SlB w g4 (geta S k))) No 9 (fun a w => Fr 37 [(2, .int .i64 (slotsE S))] a ∧ Below w0.heap.size w0 w) := by
  refine T3.leaf ?_
  rintro Q JS JX JT K hS hK hX hE hT hR a w ⟨hpre, hW, ⟨fr, rfl, q0, q3, q4, q5, q14, q15, q16, _⟩⟩
  have hpp := Lib.hid hpre
  obtain ⟨⟨hk0, hk1⟩, _⟩ := hpre
  have hsn := h.n
  have HW := Lib.hid hW
  obtain ⟨p1, c1, hv1⟩ := h.r.shape
  subst hv1
  clear hW
  generalize posE (geta S k).ps = e0 at *
  generalize hqq : (e0 != 0) = qq at *
  rw [fr_srR, show fr 0 = _ from q0, show fr 3 = _ from q3, show fr 4 = _ from q4, show fr 5 = _ from q5, show fr 14 = _ from q14, show fr 15 = _ from q15, show fr 16 = _ from q16]
  clear q0 q3 q4 q5 q14 q15 q16
  conv => arg 2; whnf
  go_wp2_with fail
  have hpre := hpp.out
  refine Met.intro (hS _ _ ?_)
  exact ⟨_, Fr.of _ rfl ⟨rfl, rfl, rfl, rfl, rfl, rfl, rfl, rfl, trivial⟩, ⟨hpre, rfl⟩, HW.out⟩

set_option maxRecDepth 100000 in
set_option maxHeartbeats 1000000 in
theorem sr14 (w0 : World) (v : Value) (S : List SlD) (h : SlH w0 v S) (hN : SlN S) (k : Int) (g4 : Nat) : T3 Try.prog (fun a w => (Below w0.heap.size w0 w ∧ SlB w g4 (geta S k)) ∧ Fr 37 [(0, v), (3, .int .i64 k), (4, .pointer (some ⟨g4, 0, none⟩)), (5, .int .i64 (posE (geta S k).ps)), (14, v), (15, .int .i64 S.length), (16, .int .i64 k)] a) (sel [1, 1, 0, 1, 4, 4, 1, 1, 0, 4, 1, 1, 1, 1, 1, 2, 0] srR) (fun a w => (Below w0.heap.size w0 w) ∧ Fr 37 [(2, .int .i64 (posE (geta S k).ps))] a) No 9 (fun a w => Fr 37 [(2, .int .i64 (slotsE S))] a ∧ Below w0.heap.size w0 w) := by
  refine T3.leaf ?_
  rintro Q JS JX JT K hS hK hX hE hT hR a w ⟨hW, ⟨fr, rfl, q0, q3, q4, q5, q14, q15, q16, _⟩⟩
  have HW := Lib.hid hW
  clear hW
  obtain ⟨p1, c1, hv1⟩ := h.r.shape
  subst hv1
  generalize posE (geta S k).ps = e0 at *
  rw [fr_srR, show fr 0 = _ from q0, show fr 3 = _ from q3, show fr 4 = _ from q4, show fr 5 = _ from q5, show fr 14 = _ from q14, show fr 15 = _ from q15, show fr 16 = _ from q16]
  clear q0 q3 q4 q5 q14 q15 q16
  conv => arg 2; whnf
  go_wp2_with fail
  refine Met.intro (hS _ _ ?_)
  exact ⟨HW.out.1, Fr.of _ rfl ⟨rfl, trivial⟩⟩

set_option maxRecDepth 100000 in
set_option maxHeartbeats 1000000 in
theorem sr16 (w0 : World) (v : Value) (S : List SlD) (h : SlH w0 v S) : T3 Try.prog (fun a w => (Below w0.heap.size w0 w) ∧ Fr 37 [] a) (sel [1, 1, 1, 0] srR) (fun a w => (Below w0.heap.size w0 w) ∧ Fr 37 [(2, .int .i64 0)] a) No 9 (fun a w => Fr 37 [(2, .int .i64 (slotsE S))] a ∧ Below w0.heap.size w0 w) := by
  refine T3.leaf ?_
  rintro Q JS JX JT K hS hK hX hE hT hR a w ⟨hW, ⟨fr, rfl, _⟩⟩
  have HW := Lib.hid hW
  clear hW
  rw [fr_srR]
  conv => arg 2; whnf
  go_wp2_with fail
  refine Met.intro (hS _ _ ?_)
  exact ⟨HW.out, Fr.of _ rfl ⟨rfl, trivial⟩⟩

set_option maxRecDepth 100000 in
set_option maxHeartbeats 1000000 in
theorem srb (w0 : World) (v : Value) (S : List SlD) (h : SlH w0 v S) (hN : SlN S) (k : Int) : T3 Try.prog (fun a w => ((0 ≤ k ∧ k < S.length) ∧ NoErr (slotAt S) k) ∧ (Below w0.heap.size w0 w) ∧ Fr 37 [(0, v), (14, v), (15, .int .i64 S.length), (16, .int .i64 k)] a) (sel [1, 1, 0, 1, 4, 4, 1, 1, 0] srR) (fun a w => ((0 ≤ k ∧ k < S.length) ∧ NoErr (slotAt S) (k + 1)) ∧ (Below w0.heap.size w0 w) ∧ Fr 37 [(0, v), (14, v), (15, .int .i64 S.length), (16, .int .i64 k)] a) No 100 (fun a w => Fr 37 [(2, .int .i64 (slotsE S))] a ∧ Below w0.heap.size w0 w) := by
  refine T3.block (id' := 2) (c := (sel [1, 1, 0, 1, 4, 4, 1, 1, 0, 4] srR)) (by decide) ?_
  refine T3.seq (s := (sel [1, 1, 0, 1, 4, 4, 1, 1, 0, 4, 0] srR)) (c := (sel [1, 1, 0, 1, 4, 4, 1, 1, 0, 4, 1] srR)) ((sr7 w0 v S h hN k).noX) (T3.ex fun g4 => ?_)
  refine T3.seq (s := (sel [1, 1, 0, 1, 4, 4, 1, 1, 0, 4, 1, 0] srR)) (c := (sel [1, 1, 0, 1, 4, 4, 1, 1, 0, 4, 1, 1] srR)) (S := fun a w => (keyB (geta S k).key = true) ∧ ((0 ≤ k ∧ k < S.length) ∧ NoErr (slotAt S) k) ∧ (Below w0.heap.size w0 w ∧ SlB w g4 (geta S k)) ∧ Fr 37 [(0, v), (3, .int .i64 k), (4, .pointer (some ⟨g4, 0, none⟩)), (14, v), (15, .int .i64 S.length), (16, .int .i64 k)] a) ?_ (T3.pure fun hky => ?_)
  · refine T3.test (s := (sel [1, 1, 0, 1, 4, 4, 1, 1, 0, 4, 1, 0, 0] srR)) (x := (sel [1, 1, 0, 1, 4, 4, 1, 1, 0, 4, 1, 0, 1, 2] srR)) (y := .skip) (C := fun q => (((0 ≤ k ∧ k < S.length) ∧ NoErr (slotAt S) k) ∧ q = !keyB (geta S k).key)) (W := fun w => Below w0.heap.size w0 w ∧ SlB w g4 (geta S k)) (by decide) ((sr8 w0 v S h hN k g4).noX) ?_ (T3.skip ?_)
    · refine T3.seq (s := (sel [1, 1, 0, 1, 4, 4, 1, 1, 0, 4, 1, 0, 1, 2, 0] srR)) (c := .ret) (t3x (p := ((0 ≤ k ∧ k < S.length) ∧ NoErr (slotAt S) k) ∧ keyB (geta S k).key = false) ((sr9 w0 v S h hN k g4).noX) ?_) (T3.ret ?_)
      · rintro a w ⟨hF, ⟨hk, hq⟩, hW⟩
        exact ⟨⟨hk, by simpa using hq.symm⟩, hW, hF.tail⟩
      · rintro a w ⟨⟨hk, hne⟩, hW, hF⟩
        have e : slotAt S k = 5 := by unfold slotAt; rw [if_pos hne]
        exact ⟨by rw [slotsE_hit hN hk.1.1 hk.1.2 hk.2 (by rw [e]; decide), e]; exact hF, hW⟩
    · rintro a w ⟨⟨hk, hq⟩, hW, hF⟩
      exact ⟨by simpa using hq.symm, hk, hW, hF⟩
  refine T3.seq (s := (sel [1, 1, 0, 1, 4, 4, 1, 1, 0, 4, 1, 1, 0] srR)) (c := (sel [1, 1, 0, 1, 4, 4, 1, 1, 0, 4, 1, 1, 1] srR)) (S := fun a w => (keyB (geta S k).key = true ∧ slotDup S k = false) ∧ ((0 ≤ k ∧ k < S.length) ∧ NoErr (slotAt S) k) ∧ (Below w0.heap.size w0 w ∧ SlB w g4 (geta S k)) ∧ Fr 37 [(0, v), (3, .int .i64 k), (4, .pointer (some ⟨g4, 0, none⟩)), (14, v), (15, .int .i64 S.length), (16, .int .i64 k)] a) ?_ (T3.pure fun hkd => ?_)
  · refine T3.test (s := (sel [1, 1, 0, 1, 4, 4, 1, 1, 0, 4, 1, 1, 0, 0] srR)) (x := (sel [1, 1, 0, 1, 4, 4, 1, 1, 0, 4, 1, 1, 0, 1, 2] srR)) (y := .skip) (C := fun q => (((0 ≤ k ∧ k < S.length) ∧ NoErr (slotAt S) k) ∧ q = slotDup S k)) (W := fun w => Below w0.heap.size w0 w ∧ SlB w g4 (geta S k)) (by decide) ((sr10 w0 v S h hN k g4).noX) ?_ (T3.skip ?_)
    · refine T3.seq (s := (sel [1, 1, 0, 1, 4, 4, 1, 1, 0, 4, 1, 1, 0, 1, 2, 0] srR)) (c := .ret) (t3x (p := ((0 ≤ k ∧ k < S.length) ∧ NoErr (slotAt S) k) ∧ (keyB (geta S k).key = true ∧ slotDup S k = true)) ((sr11 w0 v S h hN k g4).noX) ?_) (T3.ret ?_)
      · rintro a w ⟨hF, ⟨hk, hq⟩, hW⟩
        exact ⟨⟨hk, hky, hq.symm⟩, hW, hF.tail⟩
      · rintro a w ⟨⟨hk, hne⟩, hW, hF⟩
        have e : slotAt S k = 6 := by unfold slotAt; rw [if_neg (by rw [hne.1]; decide), if_pos hne.2]
        exact ⟨by rw [slotsE_hit hN hk.1.1 hk.1.2 hk.2 (by rw [e]; decide), e]; exact hF, hW⟩
    · rintro a w ⟨⟨hk, hq⟩, hW, hF⟩
      exact ⟨⟨hky, hq.symm⟩, hk, hW, hF⟩
  refine T3.seq (s := (sel [1, 1, 0, 1, 4, 4, 1, 1, 0, 4, 1, 1, 1, 0] srR)) (c := (sel [1, 1, 0, 1, 4, 4, 1, 1, 0, 4, 1, 1, 1, 1] srR)) ((sr12 w0 v S h hN k g4).noX) ?_
  refine T3.test (s := (sel [1, 1, 0, 1, 4, 4, 1, 1, 0, 4, 1, 1, 1, 1, 0] srR)) (x := (sel [1, 1, 0, 1, 4, 4, 1, 1, 0, 4, 1, 1, 1, 1, 1, 2] srR)) (y := .skip) (C := fun q => (((0 ≤ k ∧ k < S.length) ∧ NoErr (slotAt S) k) ∧ q = (posE (geta S k).ps != 0))) (W := fun w => Below w0.heap.size w0 w ∧ SlB w g4 (geta S k)) (by decide) ((sr13 w0 v S h hN k g4).noX) ?_ (T3.skip ?_)
  · refine T3.seq (s := (sel [1, 1, 0, 1, 4, 4, 1, 1, 0, 4, 1, 1, 1, 1, 1, 2, 0] srR)) (c := .ret) (t3x (p := ((0 ≤ k ∧ k < S.length) ∧ NoErr (slotAt S) k) ∧ (keyB (geta S k).key = true ∧ slotDup S k = false ∧ posE (geta S k).ps ≠ 0)) ((sr14 w0 v S h hN k g4).noX) ?_) (T3.ret ?_)
    · rintro a w ⟨hF, ⟨hk, hq⟩, hW⟩
      exact ⟨⟨hk, hkd.1, hkd.2, by simpa using hq.symm⟩, hW, hF.tail⟩
    · rintro a w ⟨⟨hk, hne⟩, hW, hF⟩
      have e : slotAt S k = posE (geta S k).ps := by unfold slotAt; rw [if_neg (by rw [hne.1]; decide), if_neg (by rw [hne.2.1]; decide)]
      exact ⟨by rw [slotsE_hit hN hk.1.1 hk.1.2 hk.2 (by rw [e]; exact hne.2.2), e]; exact hF, hW⟩
  · rintro a w ⟨⟨hk, hq⟩, hW, hF⟩
    refine ⟨⟨hk.1, hk.2.step ?_⟩, hW.1, hF.sub (by simp)⟩
    unfold slotAt
    rw [if_neg (by rw [hkd.1]; decide), if_neg (by rw [hkd.2]; decide)]
    simpa using hq.symm

def srLI (w0 : World) (v : Value) (S : List SlD) (h : SlH w0 v S) (hN : SlN S) (k : Int) (a : Act) (w : World) : Prop := (0 ≤ k ∧ k ≤ S.length) ∧ (NoErr (slotAt S) k) ∧ (Below w0.heap.size w0 w) ∧ Fr 37 [(0, v), (14, v), (15, .int .i64 S.length), (16, .int .i64 k)] a
set_option maxRecDepth 100000 in
set_option maxHeartbeats 1000000 in
theorem srLt (w0 : World) (v : Value) (S : List SlD) (h : SlH w0 v S) (hN : SlN S) (k : Int) : T3 Try.prog (fun a w => srLI w0 v S h hN k a w) (sel [1, 1, 0, 1, 4, 4, 0] srR) (fun a w => ∃ q, Fr 37 ((17, .bool q) :: [(16, .int .i64 k)]) a ∧ ((q = true ↔ k < S.length) ∧ srLI w0 v S h hN k a w)) No 9 (fun a w => Fr 37 [(2, .int .i64 (slotsE S))] a ∧ Below w0.heap.size w0 w) := by
  refine T3.leaf ?_
  rintro Q JS JX JT K hS hK hX hE hT hR a w ⟨hk, hpre, hW, ⟨fr, rfl, q0, q14, q15, q16, _⟩⟩
  have hln := h.n
  rw [fr_srR, show fr 0 = _ from q0, show fr 14 = _ from q14, show fr 15 = _ from q15, show fr 16 = _ from q16]
  clear q0 q14 q15 q16
  conv => arg 2; whnf
  by_cases hlt : k < S.length
  · go_wp2_with fail
    refine Met.intro (hS _ _ ?_)
    exact ⟨true, Fr.of _ rfl ⟨rfl, rfl, trivial⟩, ⟨fun _ => hlt, fun _ => rfl⟩, hk, hpre, hW, Fr.of _ rfl ⟨rfl, rfl, rfl, rfl, trivial⟩⟩
  · have hpb : decide (k < (S.length : Int)) = false := by simp; omega
    go_wp2_with fail
    refine Met.intro (hS _ _ ?_)
    exact ⟨false, Fr.of _ rfl ⟨rfl, rfl, trivial⟩, ⟨(fun h => by cases h), fun h => absurd h (by omega)⟩, hk, hpre, hW, Fr.of _ rfl ⟨rfl, rfl, rfl, rfl, trivial⟩⟩

set_option maxRecDepth 100000 in
set_option maxHeartbeats 1000000 in
theorem srLn (w0 : World) (v : Value) (S : List SlD) (h : SlH w0 v S) (hN : SlN S) (k : Int) : T3 Try.prog (fun a w => (0 ≤ k ∧ k < S.length) ∧ (NoErr (slotAt S) (k + 1)) ∧ (Below w0.heap.size w0 w) ∧ Fr 37 [(0, v), (14, v), (15, .int .i64 S.length), (16, .int .i64 k)] a) (sel [1, 1, 0, 1, 4, 4, 1, 1, 1] srR) (fun a w => srLI w0 v S h hN (k + 1) a w) No 9 (fun a w => Fr 37 [(2, .int .i64 (slotsE S))] a ∧ Below w0.heap.size w0 w) := by
  refine T3.leaf ?_
  rintro Q JS JX JT K hS hK hX hE hT hR a w ⟨hk, hpre, hW, ⟨fr, rfl, q0, q14, q15, q16, _⟩⟩
  obtain ⟨hk0, hk1⟩ := hk
  have hln := h.n
  rw [fr_srR, show fr 0 = _ from q0, show fr 14 = _ from q14, show fr 15 = _ from q15, show fr 16 = _ from q16]
  clear q0 q14 q15 q16
  conv => arg 2; whnf
  go_wp2_with fail
  refine Met.intro (hS _ _ ?_)
  exact ⟨⟨by omega, by omega⟩, hpre, hW, Fr.of _ rfl ⟨rfl, rfl, rfl, rfl, trivial⟩⟩

set_option maxRecDepth 100000 in
set_option maxHeartbeats 1000000 in
theorem srLloop (w0 : World) (v : Value) (S : List SlD) (h : SlH w0 v S) (hN : SlN S) : T3 Try.prog (fun a w => srLI w0 v S h hN 0 a w) (sel [1, 1, 0, 1] srR) (fun a w => (NoErr (slotAt S) S.length) ∧ (Below w0.heap.size w0 w) ∧ Fr 37 [] a) No 9 (fun a w => Fr 37 [(2, .int .i64 (slotsE S))] a ∧ Below w0.heap.size w0 w) := by
  refine T3.loop (c := (sel [1, 1, 0, 1, 4, 4] srR)) (fun ng_ a w => ∃ k : Int, (ng_ : Int) = S.length - k ∧ srLI w0 v S h hN k a w) (fun a w h => ⟨(S.length : Int).toNat, 0, by have := h.1.2; omega, h⟩) (fun ng_ => T3.ex fun k => T3.pure fun hng_ => ?_)
  refine T3.seq (s := (sel [1, 1, 0, 1, 4, 4, 0] srR)) (c := (sel [1, 1, 0, 1, 4, 4, 1] srR)) ((srLt w0 v S h hN k).noX) ?_
  refine T3.seq (s := (sel [1, 1, 0, 1, 4, 4, 1, 0] srR)) (c := (sel [1, 1, 0, 1, 4, 4, 1, 1] srR)) (S := fun a w => (0 ≤ k ∧ k < S.length) ∧ (NoErr (slotAt S) k) ∧ (Below w0.heap.size w0 w) ∧ Fr 37 [(0, v), (14, v), (15, .int .i64 S.length), (16, .int .i64 k)] a) ?_ (T3.seq (s := (sel [1, 1, 0, 1, 4, 4, 1, 1, 0] srR)) (c := (sel [1, 1, 0, 1, 4, 4, 1, 1, 1] srR)) (S := fun a w => (0 ≤ k ∧ k < S.length) ∧ (NoErr (slotAt S) (k + 1)) ∧ (Below w0.heap.size w0 w) ∧ Fr 37 [(0, v), (14, v), (15, .int .i64 S.length), (16, .int .i64 k)] a) (T3.noX (T3.mono (R' := fun a w => (0 ≤ k ∧ k < S.length) ∧ (NoErr (slotAt S) k) ∧ (Below w0.heap.size w0 w) ∧ Fr 37 [(0, v), (14, v), (15, .int .i64 S.length), (16, .int .i64 k)] a) (S' := fun a w => (0 ≤ k ∧ k < S.length) ∧ (NoErr (slotAt S) (k + 1)) ∧ (Below w0.heap.size w0 w) ∧ Fr 37 [(0, v), (14, v), (15, .int .i64 S.length), (16, .int .i64 k)] a) (srb w0 v S h hN k) (fun a w ⟨hk, hp, hI⟩ => ⟨⟨hk, hp⟩, hI⟩) (fun a w ⟨⟨hk, hp⟩, hI⟩ => ⟨hk, hp, hI⟩) (fun _ _ q => q) (fun _ _ q => q))) ?_)
  · refine T3.cond (o := .tmp 17) (x := .skip) (y := .exit 1) (fun a w => k < S.length ∧ srLI w0 v S h hN k a w) (fun a w => ¬ k < S.length ∧ srLI w0 v S h hN k a w) ?_ (T3.skip ?_) (T3.exit ?_)
    · rintro a w ⟨q, hF, hq, hI⟩
      have he := hF.eval 17 (by decide) (v := .bool q) (by simp)
      cases q
      · exact .inr ⟨he, (fun h => by have := hq.2 h; cases this), hI⟩
      · exact .inl ⟨he, hq.1 rfl, hI⟩
    · rintro a w ⟨hlt, hk, hI⟩
      exact ⟨⟨hk.1, hlt⟩, hI⟩
    · rintro a w ⟨hlt, hk, hI⟩
      obtain rfl : k = S.length := by omega
      obtain ⟨hn, hW, hF⟩ := hI
      exact ⟨hn, hW, hF.sub (by simp)⟩
  · intro a w hx
    have hk := hx.1
    exact (((srLn w0 v S h hN k).noX).post (fun a w q => ⟨ng_ - 1, by omega, k + 1, by omega, q⟩)) a w hx
set_option maxRecDepth 100000 in
set_option maxHeartbeats 1000000 in
theorem sr_all (w0 : World) (v : Value) (S : List SlD) (h : SlH w0 v S) : T3 Try.prog (fun a w => (Below w0.heap.size w0 w) ∧ Fr 37 [(0, v)] a) srR No No 9 (fun a w => Fr 37 [(2, .int .i64 (slotsE S))] a ∧ Below w0.heap.size w0 w) := by
  refine T3.seq (s := (sel [0] srR)) (c := (sel [1] srR)) (sr0 w0 v S h) ?_
  refine T3.seq (s := (sel [1, 0] srR)) (c := (sel [1, 1] srR)) (S := fun a w => (SlN S) ∧ (Below w0.heap.size w0 w) ∧ Fr 37 [(0, v)] a) ?_ (T3.pure fun hN => ?_)
  · refine T3.block (id' := 0) (c := (sel [1, 0, 4] srR)) (by decide) ?_
    refine T3.test (s := (sel [1, 0, 4, 0] srR)) (x := (sel [1, 0, 4, 1, 2] srR)) (y := (sel [1, 0, 4, 1, 3] srR)) (C := fun q => (q = ((S.length : Int) == 0))) (W := fun w => Below w0.heap.size w0 w) (by decide) ((sr1 w0 v S h).noX) ?_ ?_
    · refine T3.seq (s := (sel [1, 0, 4, 1, 2, 0] srR)) (c := .ret) (t3x (p := S.length = 0) ((sr2 w0 v S h).noX) ?_) (T3.ret ?_)
      · rintro a w ⟨hF, hq, hW⟩
        exact ⟨by have := hq.symm; simpa using this, hW, hF.tail⟩
      · rintro a w ⟨hp, hW, hF⟩
        exact ⟨by rw [slotsE_none hp]; exact hF, hW⟩
    · refine T3.pre (R := fun a w => (S.length ≠ 0) ∧ (Below w0.heap.size w0 w) ∧ Fr 37 [(0, v)] a) (T3.pure fun hl => ?_) (fun a w q => ⟨by have := q.1.symm; simpa using this, q.2⟩)
      refine T3.test (s := (sel [1, 0, 4, 1, 3, 0] srR)) (x := (sel [1, 0, 4, 1, 3, 1, 2] srR)) (y := .skip) (C := fun q => (q = decide ((12 : Int) < (S.length : Int)))) (W := fun w => Below w0.heap.size w0 w) (by decide) ((sr3 w0 v S h).noX) ?_ (T3.skip ?_)
      · refine T3.seq (s := (sel [1, 0, 4, 1, 3, 1, 2, 0] srR)) (c := .ret) (t3x (p := 12 < S.length) ((sr4 w0 v S h).noX) ?_) (T3.ret ?_)
        · rintro a w ⟨hF, hq, hW⟩
          exact ⟨by have := of_decide_eq_true hq.symm; omega, hW, hF.tail⟩
        · rintro a w ⟨hp, hW, hF⟩
          exact ⟨by rw [slotsE_big hl hp]; exact hF, hW⟩
      · rintro a w ⟨hq, hW, hF⟩
        exact ⟨⟨hl, by have := of_decide_eq_false hq.symm; omega⟩, hW, hF⟩
  refine T3.seq (s := (sel [1, 1, 0] srR)) (c := (sel [1, 1, 1] srR)) (T3.seq (s := (sel [1, 1, 0, 0] srR)) (c := (sel [1, 1, 0, 1] srR)) (sr5 w0 v S h hN) (srLloop w0 v S h hN)) (T3.pure fun hn => ?_)
  refine T3.seq (s := (sel [1, 1, 1, 0] srR)) (c := .ret) (sr16 w0 v S h) (T3.ret ?_)
  rintro a w ⟨hW, hF⟩
  exact ⟨by rw [slotsE_ok hN hn]; exact hF, hW⟩

set_option maxRecDepth 100000 in
set_option maxHeartbeats 1000000 in
theorem slots_ref (w0 : World) (v : Value) (S : List SlD) (h : SlH w0 v S) : Calls Try.prog 8 #[v] w0 fun e w' => e = .returned (.int .i64 (slotsE S)) ∧ Below w0.heap.size w0 w' := by
  have hall := sr_all w0 v S h
  go_enter Try.func8, Try.ntmps8
  refine T3.done (s := srR) hall ⟨Below.refl _ _, Fr.of _ rfl ⟨rfl, trivial⟩⟩ ?_
  rintro a w ⟨⟨fr, rfl, q2, _⟩, hw⟩
  rw [fr_srR, show fr 2 = _ from q2]
  go_ret
  exact ⟨rfl, hw⟩
end Go.Proofs.Ytnmdpphddimfbaa
/-
  The first of several errors. Condition: fewer than 2^40 of them.
-/
set_option linter.unusedVariables false
namespace Go.Proofs.Ytnmdpphddimfbaa
open Go.RowKit Go.Bw
/-- The first that is not 0. -/
def errL : List Int → Int
  | [] => 0
  | a :: l => if a ≠ 0 then a else errL l
end Go.Proofs.Ytnmdpphddimfbaa
/-
  The first of some errors, the program's First. Condition: at most 1000000 of them.
-/
set_option linter.unusedVariables false
namespace Go.Proofs.Ytnmdpphddimfbaa
open Go.RowKit Go.Bw
def fstE (l : List Int) : Int := firstErr (geti l) l.length
/-- Errors in memory. -/
structure EsH (w : World) (v : Value) (l : List Int) : Prop where
  r : Row w 0 1 v l.length (l.map (.int .i64))
  n : l.length ≤ 1000000
noncomputable def fiP : Code := (Try.f65.body).getD .skip
set_option maxRecDepth 100000 in
theorem fr_fiP (f : Nat → Value) : frame 15 f = ⟨#[f 0, f 1, f 2, f 3, f 4, f 5, f 6, f 7, f 8, f 9, f 10, f 11, f 12, f 13, f 14], []⟩ := by rfl
set_option maxRecDepth 100000 in
set_option maxHeartbeats 1000000 in
theorem fi0 (w0 : World) (va : Value) (l : List Int) (h : EsH w0 va l) : T3 Try.prog (fun a w => (IsW w0 w) ∧ Fr 15 [(0, va)] a) (sel [0] fiP) (fun a w => (IsW w0 w) ∧ Fr 15 [(0, va)] a) No 9 (fun a w => Fr 15 [(2, .int .i64 (fstE l))] a ∧ IsW w0 w) := by
  refine T3.leaf ?_
  rintro Q JS JX JT K hS hK hX hE hT hR a w ⟨hW, ⟨fr, rfl, q0, _⟩⟩
  obtain ⟨p1, c1, hv1⟩ := h.r.shape
  subst hv1
  rw [fr_fiP, show fr 0 = _ from q0]
  clear q0
  conv => arg 2; whnf
  go_wp2_with fail
  refine Met.intro (hS _ _ ?_)
  exact ⟨hW, Fr.of _ rfl ⟨rfl, trivial⟩⟩

set_option maxRecDepth 100000 in
set_option maxHeartbeats 1000000 in
theorem fi1 (w0 : World) (va : Value) (l : List Int) (h : EsH w0 va l) : T3 Try.prog (fun a w => (IsW w0 w) ∧ Fr 15 [(0, va)] a) (sel [1, 0, 0] fiP) (fun a w => (0 ≤ (0 : Int) ∧ (0 : Int) ≤ l.length) ∧ (NoErr (geti l) 0) ∧ (IsW w0 w) ∧ Fr 15 [(5, va), (6, .int .i64 l.length), (7, .int .i64 0)] a) No 9 (fun a w => Fr 15 [(2, .int .i64 (fstE l))] a ∧ IsW w0 w) := by
  refine T3.leaf ?_
  rintro Q JS JX JT K hS hK hX hE hT hR a w ⟨hW, ⟨fr, rfl, q0, _⟩⟩
  obtain ⟨p1, c1, hv1⟩ := h.r.shape
  subst hv1
  rw [fr_fiP, show fr 0 = _ from q0]
  clear q0
  conv => arg 2; whnf
  go_wp2_with fail
  refine Met.intro (hS _ _ ?_)
  exact ⟨⟨by omega, by omega⟩, NoErr.zero _, hW, Fr.of _ rfl ⟨rfl, rfl, rfl, trivial⟩⟩

set_option maxRecDepth 100000 in
set_option maxHeartbeats 1000000 in
theorem fi3 (w0 : World) (va : Value) (l : List Int) (h : EsH w0 va l) (k : Int) : T3 Try.prog (fun a w => ((0 ≤ k ∧ k < l.length) ∧ NoErr (geti l) k) ∧ (IsW w0 w) ∧ Fr 15 [(5, va), (6, .int .i64 l.length), (7, .int .i64 k)] a) (sel [1, 0, 1, 4, 4, 1, 1, 0, 4, 0] fiP) (fun a w => ((0 ≤ k ∧ k < l.length) ∧ NoErr (geti l) k) ∧ (IsW w0 w) ∧ Fr 15 [(4, .int .i64 (geti l k)), (5, va), (6, .int .i64 l.length), (7, .int .i64 k)] a) No 9 (fun a w => Fr 15 [(2, .int .i64 (fstE l))] a ∧ IsW w0 w) := by
  refine T3.leaf ?_
  rintro Q JS JX JT K hS hK hX hE hT hR a w ⟨hpre, hW, ⟨fr, rfl, q5, q6, q7, _⟩⟩
  have hpp := Lib.hid hpre
  obtain ⟨⟨hk0, hk1⟩, _⟩ := hpre
  obtain rfl : w = w0 := hW
  have hn := h.n
  obtain ⟨_, hcs⟩ := h.r.ints
  rcases hcs with ⟨rfl, h0⟩ | ⟨bz, off, cap, rfl, _, hbz, hnc, hcm, hcell⟩
  · omega
  have t0 := hcell k hk0 hk1
  clear hcell
  rw [fr_fiP, show fr 5 = _ from q5, show fr 6 = _ from q6, show fr 7 = _ from q7]
  clear q5 q6 q7
  conv => arg 2; whnf
  go_wp2_with fail
  refine Met.intro (hS _ _ ?_)
  exact ⟨hpp.out, rfl, Fr.of _ rfl ⟨rfl, rfl, rfl, rfl, trivial⟩⟩

set_option maxRecDepth 100000 in
set_option maxHeartbeats 1000000 in
theorem fi4 (w0 : World) (va : Value) (l : List Int) (h : EsH w0 va l) (k : Int) : T3 Try.prog (fun a w => ((0 ≤ k ∧ k < l.length) ∧ NoErr (geti l) k) ∧ (IsW w0 w) ∧ Fr 15 [(4, .int .i64 (geti l k)), (5, va), (6, .int .i64 l.length), (7, .int .i64 k)] a) (sel [1, 0, 1, 4, 4, 1, 1, 0, 4, 1, 0] fiP) (fun a w => ∃ q, Fr 15 ((12, .bool q) :: [(4, .int .i64 (geti l k)), (5, va), (6, .int .i64 l.length), (7, .int .i64 k)]) a ∧ ((((0 ≤ k ∧ k < l.length) ∧ NoErr (geti l) k) ∧ q = (geti l k != 0)) ∧ IsW w0 w)) No 9 (fun a w => Fr 15 [(2, .int .i64 (fstE l))] a ∧ IsW w0 w) := by
  refine T3.leaf ?_
  rintro Q JS JX JT K hS hK hX hE hT hR a w ⟨hpre, hW, ⟨fr, rfl, q4, q5, q6, q7, _⟩⟩
  obtain ⟨p1, c1, hv1⟩ := h.r.shape
  subst hv1
  generalize hpk : geti l k = e0 at *
  clear hpk
  rw [fr_fiP, show fr 4 = _ from q4, show fr 5 = _ from q5, show fr 6 = _ from q6, show fr 7 = _ from q7]
  clear q4 q5 q6 q7
  conv => arg 2; whnf
  go_wp2_with fail
  refine Met.intro (hS _ _ ?_)
  exact ⟨_, Fr.of _ rfl ⟨rfl, rfl, rfl, rfl, rfl, trivial⟩, ⟨hpre, rfl⟩, hW⟩

set_option maxRecDepth 100000 in
set_option maxHeartbeats 1000000 in
theorem fi5 (w0 : World) (va : Value) (l : List Int) (h : EsH w0 va l) (k : Int) : T3 Try.prog (fun a w => (IsW w0 w) ∧ Fr 15 [(4, .int .i64 (geti l k)), (5, va), (6, .int .i64 l.length), (7, .int .i64 k)] a) (sel [1, 0, 1, 4, 4, 1, 1, 0, 4, 1, 1, 2, 0] fiP) (fun a w => (IsW w0 w) ∧ Fr 15 [(2, .int .i64 (geti l k))] a) No 9 (fun a w => Fr 15 [(2, .int .i64 (fstE l))] a ∧ IsW w0 w) := by
  refine T3.leaf ?_
  rintro Q JS JX JT K hS hK hX hE hT hR a w ⟨hW, ⟨fr, rfl, q4, q5, q6, q7, _⟩⟩
  obtain ⟨p1, c1, hv1⟩ := h.r.shape
  subst hv1
  generalize geti l k = e0 at *
  rw [fr_fiP, show fr 4 = _ from q4, show fr 5 = _ from q5, show fr 6 = _ from q6, show fr 7 = _ from q7]
  clear q4 q5 q6 q7
  conv => arg 2; whnf
  go_wp2_with fail
  refine Met.intro (hS _ _ ?_)
  exact ⟨hW, Fr.of _ rfl ⟨rfl, trivial⟩⟩

set_option maxRecDepth 100000 in
set_option maxHeartbeats 1000000 in
theorem fib (w0 : World) (va : Value) (l : List Int) (h : EsH w0 va l) (k : Int) : T3 Try.prog (fun a w => ((0 ≤ k ∧ k < l.length) ∧ NoErr (geti l) k) ∧ (IsW w0 w) ∧ Fr 15 [(5, va), (6, .int .i64 l.length), (7, .int .i64 k)] a) (sel [1, 0, 1, 4, 4, 1, 1, 0] fiP) (fun a w => ((0 ≤ k ∧ k < l.length) ∧ NoErr (geti l) (k + 1)) ∧ (IsW w0 w) ∧ Fr 15 [(5, va), (6, .int .i64 l.length), (7, .int .i64 k)] a) No 100 (fun a w => Fr 15 [(2, .int .i64 (fstE l))] a ∧ IsW w0 w) := by
  refine T3.block (id' := 1) (c := (sel [1, 0, 1, 4, 4, 1, 1, 0, 4] fiP)) (by decide) ?_
  refine T3.seq (s := (sel [1, 0, 1, 4, 4, 1, 1, 0, 4, 0] fiP)) (c := (sel [1, 0, 1, 4, 4, 1, 1, 0, 4, 1] fiP)) ((fi3 w0 va l h k).noX) ?_
  refine T3.test (s := (sel [1, 0, 1, 4, 4, 1, 1, 0, 4, 1, 0] fiP)) (x := (sel [1, 0, 1, 4, 4, 1, 1, 0, 4, 1, 1, 2] fiP)) (y := .skip) (C := fun q => (((0 ≤ k ∧ k < l.length) ∧ NoErr (geti l) k) ∧ q = (geti l k != 0))) (W := fun w => IsW w0 w) (by decide) ((fi4 w0 va l h k).noX) ?_ (T3.skip ?_)
  · refine T3.seq (s := (sel [1, 0, 1, 4, 4, 1, 1, 0, 4, 1, 1, 2, 0] fiP)) (c := .ret) (t3_seqx (p := ((0 ≤ k ∧ k < l.length) ∧ NoErr (geti l) k) ∧ geti l k ≠ 0) ((fi5 w0 va l h k).noX) ?_) (T3.ret ?_)
    · rintro a w ⟨hF, ⟨hk, hq⟩, hW⟩
      exact ⟨⟨hk, by have := hq.symm; simpa using this⟩, hW, hF.tail⟩
    · rintro a w ⟨⟨hk, hne⟩, hW, hF⟩
      have e : fstE l = geti l k := firstErr_hit hk.2 hk.1.1 hk.1.2 hne
      exact ⟨by rw [e]; exact hF, hW⟩
  · rintro a w ⟨⟨hk, hq⟩, hW, hF⟩
    exact ⟨⟨hk.1, hk.2.step (by have := hq.symm; simpa using this)⟩, hW, hF.sub (by simp)⟩

def fiI (w0 : World) (va : Value) (l : List Int) (h : EsH w0 va l) (k : Int) (a : Act) (w : World) : Prop := (0 ≤ k ∧ k ≤ l.length) ∧ (NoErr (geti l) k) ∧ (IsW w0 w) ∧ Fr 15 [(5, va), (6, .int .i64 l.length), (7, .int .i64 k)] a
set_option maxRecDepth 100000 in
set_option maxHeartbeats 1000000 in
theorem fit (w0 : World) (va : Value) (l : List Int) (h : EsH w0 va l) (k : Int) : T3 Try.prog (fun a w => fiI w0 va l h k a w) (sel [1, 0, 1, 4, 4, 0] fiP) (fun a w => ∃ q, Fr 15 ((8, .bool q) :: [(7, .int .i64 k)]) a ∧ ((q = true ↔ k < l.length) ∧ fiI w0 va l h k a w)) No 9 (fun a w => Fr 15 [(2, .int .i64 (fstE l))] a ∧ IsW w0 w) := by
  refine T3.leaf ?_
  rintro Q JS JX JT K hS hK hX hE hT hR a w ⟨hk, hpre, hW, ⟨fr, rfl, q5, q6, q7, _⟩⟩
  have hln := h.n
  rw [fr_fiP, show fr 5 = _ from q5, show fr 6 = _ from q6, show fr 7 = _ from q7]
  clear q5 q6 q7
  conv => arg 2; whnf
  by_cases hlt : k < l.length
  · go_wp2_with fail
    refine Met.intro (hS _ _ ?_)
    exact ⟨true, Fr.of _ rfl ⟨rfl, rfl, trivial⟩, ⟨fun _ => hlt, fun _ => rfl⟩, hk, hpre, hW, Fr.of _ rfl ⟨rfl, rfl, rfl, trivial⟩⟩
  · have hpb : decide (k < (l.length : Int)) = false := by simp; omega
    go_wp2_with fail
    refine Met.intro (hS _ _ ?_)
    exact ⟨false, Fr.of _ rfl ⟨rfl, rfl, trivial⟩, ⟨(fun h => by cases h), fun h => absurd h (by omega)⟩, hk, hpre, hW, Fr.of _ rfl ⟨rfl, rfl, rfl, trivial⟩⟩

set_option maxRecDepth 100000 in
set_option maxHeartbeats 1000000 in
theorem fin (w0 : World) (va : Value) (l : List Int) (h : EsH w0 va l) (k : Int) : T3 Try.prog (fun a w => (0 ≤ k ∧ k < l.length) ∧ (NoErr (geti l) (k + 1)) ∧ (IsW w0 w) ∧ Fr 15 [(5, va), (6, .int .i64 l.length), (7, .int .i64 k)] a) (sel [1, 0, 1, 4, 4, 1, 1, 1] fiP) (fun a w => fiI w0 va l h (k + 1) a w) No 9 (fun a w => Fr 15 [(2, .int .i64 (fstE l))] a ∧ IsW w0 w) := by
  refine T3.leaf ?_
  rintro Q JS JX JT K hS hK hX hE hT hR a w ⟨hk, hpre, hW, ⟨fr, rfl, q5, q6, q7, _⟩⟩
  obtain ⟨hk0, hk1⟩ := hk
  have hln := h.n
  rw [fr_fiP, show fr 5 = _ from q5, show fr 6 = _ from q6, show fr 7 = _ from q7]
  clear q5 q6 q7
  conv => arg 2; whnf
  go_wp2_with fail
  refine Met.intro (hS _ _ ?_)
  exact ⟨⟨by omega, by omega⟩, hpre, hW, Fr.of _ rfl ⟨rfl, rfl, rfl, trivial⟩⟩

set_option maxRecDepth 100000 in
set_option maxHeartbeats 1000000 in
theorem filoop (w0 : World) (va : Value) (l : List Int) (h : EsH w0 va l) : T3 Try.prog (fun a w => fiI w0 va l h 0 a w) (sel [1, 0, 1] fiP) (fun a w => (NoErr (geti l) l.length) ∧ (IsW w0 w) ∧ Fr 15 [] a) No 9 (fun a w => Fr 15 [(2, .int .i64 (fstE l))] a ∧ IsW w0 w) := by
  refine T3.loop (c := (sel [1, 0, 1, 4, 4] fiP)) (fun ng_ a w => ∃ k : Int, (ng_ : Int) = l.length - k ∧ fiI w0 va l h k a w) (fun a w h => ⟨(l.length : Int).toNat, 0, by have := h.1.2; omega, h⟩) (fun ng_ => T3.ex fun k => T3.pure fun hng_ => ?_)
  refine T3.seq (s := (sel [1, 0, 1, 4, 4, 0] fiP)) (c := (sel [1, 0, 1, 4, 4, 1] fiP)) ((fit w0 va l h k).noX) ?_
  refine T3.seq (s := (sel [1, 0, 1, 4, 4, 1, 0] fiP)) (c := (sel [1, 0, 1, 4, 4, 1, 1] fiP)) (S := fun a w => (0 ≤ k ∧ k < l.length) ∧ (NoErr (geti l) k) ∧ (IsW w0 w) ∧ Fr 15 [(5, va), (6, .int .i64 l.length), (7, .int .i64 k)] a) ?_ (T3.seq (s := (sel [1, 0, 1, 4, 4, 1, 1, 0] fiP)) (c := (sel [1, 0, 1, 4, 4, 1, 1, 1] fiP)) (S := fun a w => (0 ≤ k ∧ k < l.length) ∧ (NoErr (geti l) (k + 1)) ∧ (IsW w0 w) ∧ Fr 15 [(5, va), (6, .int .i64 l.length), (7, .int .i64 k)] a) (T3.noX (T3.mono (R' := fun a w => (0 ≤ k ∧ k < l.length) ∧ (NoErr (geti l) k) ∧ (IsW w0 w) ∧ Fr 15 [(5, va), (6, .int .i64 l.length), (7, .int .i64 k)] a) (S' := fun a w => (0 ≤ k ∧ k < l.length) ∧ (NoErr (geti l) (k + 1)) ∧ (IsW w0 w) ∧ Fr 15 [(5, va), (6, .int .i64 l.length), (7, .int .i64 k)] a) (fib w0 va l h k) (fun a w ⟨hk, hp, hI⟩ => ⟨⟨hk, hp⟩, hI⟩) (fun a w ⟨⟨hk, hp⟩, hI⟩ => ⟨hk, hp, hI⟩) (fun _ _ q => q) (fun _ _ q => q))) ?_)
  · refine T3.cond (o := .tmp 8) (x := .skip) (y := .exit 0) (fun a w => k < l.length ∧ fiI w0 va l h k a w) (fun a w => ¬ k < l.length ∧ fiI w0 va l h k a w) ?_ (T3.skip ?_) (T3.exit ?_)
    · rintro a w ⟨q, hF, hq, hI⟩
      have he := hF.eval 8 (by decide) (v := .bool q) (by simp)
      cases q
      · exact .inr ⟨he, (fun h => by have := hq.2 h; cases this), hI⟩
      · exact .inl ⟨he, hq.1 rfl, hI⟩
    · rintro a w ⟨hlt, hk, hI⟩
      exact ⟨⟨hk.1, hlt⟩, hI⟩
    · rintro a w ⟨hlt, hk, hI⟩
      obtain rfl : k = l.length := by omega
      obtain ⟨hn, hW, hF⟩ := hI
      exact ⟨hn, hW, hF.sub (by simp)⟩
  · intro a w hx
    have hk := hx.1
    exact (((fin w0 va l h k).noX).post (fun a w q => ⟨ng_ - 1, by omega, k + 1, by omega, q⟩)) a w hx
set_option maxRecDepth 100000 in
set_option maxHeartbeats 1000000 in
theorem fi7 (w0 : World) (va : Value) (l : List Int) (h : EsH w0 va l) (hn : NoErr (geti l) l.length) : T3 Try.prog (fun a w => (IsW w0 w) ∧ Fr 15 [] a) (sel [1, 1, 0] fiP) (fun a w => (IsW w0 w) ∧ Fr 15 [(2, .int .i64 0)] a) No 9 (fun a w => Fr 15 [(2, .int .i64 (fstE l))] a ∧ IsW w0 w) := by
  refine T3.leaf ?_
  rintro Q JS JX JT K hS hK hX hE hT hR a w ⟨hW, ⟨fr, rfl, _⟩⟩
  clear hn
  rw [fr_fiP]
  conv => arg 2; whnf
  go_wp2_with fail
  refine Met.intro (hS _ _ ?_)
  exact ⟨hW, Fr.of _ rfl ⟨rfl, trivial⟩⟩

set_option maxRecDepth 100000 in
set_option maxHeartbeats 1000000 in
theorem fi_all (w0 : World) (va : Value) (l : List Int) (h : EsH w0 va l) : T3 Try.prog (fun a w => (IsW w0 w) ∧ Fr 15 [(0, va)] a) fiP No No 9 (fun a w => Fr 15 [(2, .int .i64 (fstE l))] a ∧ IsW w0 w) := by
  refine T3.seq (s := (sel [0] fiP)) (c := (sel [1] fiP)) (fi0 w0 va l h) ?_
  refine T3.seq (s := (sel [1, 0] fiP)) (c := (sel [1, 1] fiP)) (T3.seq (s := (sel [1, 0, 0] fiP)) (c := (sel [1, 0, 1] fiP)) (fi1 w0 va l h) (filoop w0 va l h)) ?_
  refine T3.pure fun hn => ?_
  refine T3.seq (s := (sel [1, 1, 0] fiP)) (c := .ret) (fi7 w0 va l h hn) (T3.ret ?_)
  rintro a w ⟨hW, hF⟩
  have e : fstE l = 0 := firstErr_none hn
  exact ⟨by rw [e]; exact hF, hW⟩

set_option maxRecDepth 100000 in
set_option maxHeartbeats 1000000 in
theorem first_prog2 (w0 : World) (va : Value) (l : List Int) (h : EsH w0 va l) : Calls Try.prog 65 #[va] w0 fun e w' => e = .returned (.int .i64 (fstE l)) ∧ w0 = w' := by
  have hall := fi_all w0 va l h
  go_enter Try.func65, Try.ntmps65
  refine T3.done (s := fiP) hall ⟨rfl, Fr.of _ rfl ⟨rfl, trivial⟩⟩ ?_
  rintro a w ⟨⟨fr, rfl, q2, _⟩, hb⟩
  obtain rfl : w = w0 := hb
  rw [fr_fiP, show fr 2 = _ from q2]
  go_ret
  exact ⟨rfl, rfl⟩
theorem fst2 (x y : Int) : fstE [x, y] = if x ≠ 0 then x else y := by
  unfold fstE
  by_cases hx : x = 0
  · rw [if_neg (by simp [hx])]
    by_cases hy : y = 0
    · subst hx; subst hy; decide
    · exact firstErr_hit (f := geti [x, y]) (n := 2) (i := 1) (fun j h0 h1 => by
      obtain rfl : j = 0 := by omega
      simp [geti, hx]) (by decide) (by decide) (by simp [geti, hy])
  · rw [if_pos hx]
    exact firstErr_hit (f := geti [x, y]) (n := 2) (i := 0) (NoErr.zero _) (by decide) (by decide) (by simp [geti, hx])
theorem es_new (w : World) (x y : Int) (e : TypeId) : EsH (w.alloc (.cells #[.int .i64 x, .int .i64 y] e)) (.slice (some ⟨w.heap.size, 0, none⟩) 2 2) [x, y] := by
  refine ⟨⟨rfl, .inr ⟨_, 0, 2, rfl, Nat.zero_le _, by simp, Nat.le_refl _, by decide, ?_⟩⟩, by simp⟩
  intro i u hi
  match i, hi with
  | 0, hi => cases hi; exact cells_new w _ _ 0 _ rfl
  | 1, hi => cases hi; exact cells_new w _ _ 1 _ rfl
end Go.Proofs.Ytnmdpphddimfbaa
