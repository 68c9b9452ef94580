/-
  Contracts and lemmas towards the statement, of several parts; each part says ahead of it what it holds and under which conditions.
-/
import Derived.Test.YtkdimgghljklmaaMg1
import Derived.OrdersHeld
import Derived.StillTail
/-
  A region that draws its order: its calm operations (they read old cells or only compute) are taken first, in the order of the text; then the others, where only one order is left. No condition on a program.
-/
set_option linter.unusedVariables false
namespace Go.Bw
open Go.RowKit

def allocs (w : World) (os : List Obj) : World := { w with heap := w.heap ++ os.toArray }
theorem allocs_nil (w : World) : allocs w [] = w := by simp [allocs]
theorem allocs_alloc (w : World) (os : List Obj) (o : Obj) : (allocs w os).alloc o = allocs w (os ++ [o]) := by
  simp [allocs, World.alloc]
theorem cell?_allocs (w : World) (os : List Obj) (a : Addr) (h : (w.cell? a).isSome = true) : (allocs w os).cell? a = w.cell? a := by
  obtain ⟨v, hv⟩ := Option.isSome_iff_exists.1 h
  have hlt := World.block_lt_of_cell? w a hv
  refine World.cell?_of_block ?_
  simp [allocs, Array.getElem?_append, hlt]

section
variable {P : Program} {ops : Array Oper} {Q : Exit → Act → World → Prop} {md : Region.Mode}

/-- The worlds that are w with new blocks. -/
def Ext (w : World) (w' : World) : Prop := ∃ os, w' = allocs w os

theorem ext_alloc {w₁ : World} : ∀ w o, Ext w₁ w → Ext w₁ (w.alloc o) := fun w o ⟨os, e⟩ => ⟨os ++ [o], by rw [e]; exact allocs_alloc _ _ _⟩

/-- Operations that at most lay new blocks. -/
def laysB (o : Oper) : Bool := match o.op with | .alloc _ | .box .. | .buildSlice .. => true | _ => false

def Same {α : Type} (w : World) : Result α → Prop | .ok _ w' => w' = w | .halt _ _ => True
def OutExt {α : Type} (w : World) : Result α → Prop | .ok _ w' => ∃ o, w' = w.alloc o | .halt _ _ => True

theorem same_pure {α : Type} (x : α) (w : World) : Same w ((pure x : Sem α).run P w) := by simp [Same]
theorem same_bind {α β : Type} {x : Sem α} {f : α → Sem β} {w : World} (h : Same w (x.run P w)) (hf : ∀ a, Same w ((f a).run P w)) : Same w ((x >>= f).run P w) := by
  rw [Sem.run_bind]
  cases hx : x.run P w with
  | ok a w' => rw [hx] at h; obtain rfl := h; exact hf a
  | halt e w' => trivial
theorem out_bind {α β : Type} {x : Sem α} {f : α → Sem β} {w : World} (h : Same w (x.run P w)) (hf : ∀ a, OutExt w ((f a).run P w)) : OutExt w ((x >>= f).run P w) := by
  rw [Sem.run_bind]
  cases hx : x.run P w with
  | ok a w' => rw [hx] at h; obtain rfl := h; exact hf a
  | halt e w' => trivial
theorem out_bind' {α β : Type} {x : Sem α} {f : α → Sem β} {w : World} (h : OutExt w (x.run P w)) (hf : ∀ a w', Same w' ((f a).run P w')) : OutExt w ((x >>= f).run P w) := by
  rw [Sem.run_bind]
  cases hx : x.run P w with
  | ok a w' =>
    rw [hx] at h
    obtain ⟨o, rfl⟩ := h
    have := hf a (w.alloc o)
    show OutExt w ((f a).run P (w.alloc o))
    cases hy : (f a).run P (w.alloc o) with
    | ok b w'' => rw [hy] at this; obtain rfl := this; exact ⟨o, rfl⟩
    | halt e w' => trivial
  | halt e w' => trivial
theorem same_halt {α : Type} (e : Halt) (w w' : World) : Same (α := α) w (.halt e w') := trivial

theorem same_typeInfo (t : TypeId) (w : World) : Same w ((typeInfo t).run P w) := by
  unfold typeInfo
  cases h : P.info? t <;> simp [h, Same, stuck]
theorem same_underlying (t : TypeId) (w : World) : Same w ((underlying t).run P w) := by
  unfold underlying
  cases h : P.underlying t <;> simp [h, Same, stuck]
theorem same_zeroValue (t : TypeId) (w : World) : Same w ((zeroValue t).run P w) := by
  unfold zeroValue
  refine same_bind (same_typeInfo t w) fun i => ?_
  cases h : i.zero <;> simp [Same, unsupported]
theorem same_sizeOf (t : TypeId) (w : World) : Same w ((sizeOf t).run P w) := by
  unfold sizeOf
  exact same_bind (same_typeInfo t w) fun i => same_pure _ _
theorem out_newRow (e : TypeId) (cs : Array Value) (w : World) : OutExt w ((newRow e cs).run P w) := by
  unfold newRow newObj
  simp [OutExt]
  exact ⟨_, rfl⟩

def OutV (w : World) : Result Next → Prop | .ok (.value _) w' => ∃ o, w' = w.alloc o | .ok _ _ => False | .halt _ _ => True
theorem out_v {s : Sem Value} {w : World} (h : OutExt w (s.run P w)) : OutV w ((do pure (Next.value (← s)) : Sem Next).run P w) := by
  rw [Sem.run_bind]
  cases hx : s.run P w with
  | ok a w' => rw [hx] at h; exact h
  | halt e w' => trivial

theorem lays_out (o : Oper) (ρ : Operand → Value) (w : World) (h : laysB o = true) : OutV w ((execOp ρ o).run P w) := by
  obtain ⟨dst, op, type, pos, after, guard⟩ := o
  cases op <;> simp [laysB] at h
  · unfold execOp Instr.alloc newVar
    exact out_v (out_bind (same_zeroValue _ _) fun z => out_bind' (out_newRow _ _ _) fun _ _ => same_pure _ _)
  · unfold execOp Instr.box newVar
    exact out_v (out_bind' (out_newRow _ _ _) fun _ _ => same_pure _ _)
  · rename_i t len parts
    unfold execOp Instr.buildSlice
    refine out_v (out_bind (same_underlying _ _) fun d => ?_)
    split
    · rename_i elem
      refine out_bind (same_sizeOf _ _) fun sz => ?_
      simp only []
      split
      · simp [OutExt, unsupported]
      · refine out_bind (same_pure _ _) fun _ => ?_
        rename_i inst
        cases inst with
        | isFalse h0 =>
          refine out_bind (same_zeroValue _ _) fun _ => out_bind (same_pure _ _) fun _ => ?_
          split
          · exact out_bind' (out_newRow _ _ _) fun _ _ => same_pure _ _
          · simp [OutExt, stuck]
        | isTrue h0 =>
          refine out_bind (same_pure _ _) fun _ => ?_
          split
          · exact out_bind' (out_newRow _ _ _) fun _ _ => same_pure _ _
          · simp [OutExt, stuck]
    · simp [OutExt, stuck]

theorem wpOp_lays {j : Nat} {oj : Oper} (hj : ops[j]? = some oj) (hl : laysB oj = true) {K : Act → World → Prop} {a : Act} {w : World} (h : wpOp P ops Q j K a w) :
    wpOp P ops Q j (fun a' w' => K a' w' ∧ (w' = w ∨ ∃ o, w' = w.alloc o)) a w := by
  unfold wpOp at *
  simp only [hj] at *
  split
  · rename_i hw
    simp only [hw, if_true] at h
    refine h.imp (fun h => ?_) id
    have hx := lays_out (P := P) oj a.eval w hl
    unfold Oper.wp at *
    generalize (execOp a.eval oj).run P w = r at *
    cases r with
    | ok n w' =>
      cases n <;> simp only [Oper.upon] at h ⊢
      case value u => exact ⟨h, .inr hx⟩
      all_goals exact (hx : False).elim
    | halt x w' =>
      cases x <;> simp only [Oper.upon] at h ⊢
      case panic u => exact h
  · rename_i hw
    simp only [hw] at h
    exact ⟨h, by simp⟩

/-- Whatever order is picked from here on; the calm ones (mask) leave the world alone. -/
def wpAnyG (P : Program) (md : Region.Mode) (ops : Array Oper) (mask : Nat → Bool) (Q : Exit → Act → World → Prop) : Nat → Array Bool → Act → World → Prop
  | 0, listed, a, w => Region.ready md ops listed = [] ∧ Q .normal a w
  | fuel + 1, listed, a, w =>
    (Region.ready md ops listed = [] → Q .normal a w) ∧
    ∀ i ∈ Region.ready md ops listed, wpOp P ops Q i (fun a' w' => (mask i = true → w' = w) ∧ wpAnyG P md ops mask Q fuel (listed.setIfInBounds i true) a' w') a w

theorem wpAny_of_G {mask : Nat → Bool} : ∀ (fuel : Nat) (listed : Array Bool) (a : Act) (w : World), wpAnyG P md ops mask Q fuel listed a w → wpAny P md ops Q fuel listed a w
  | 0, _, _, _, h => h
  | fuel + 1, _, _, _, h => ⟨h.1, fun i hi => wpOp_mono (fun a' w' h' => wpAny_of_G fuel _ a' w' h'.2) (h.2 i hi)⟩

/-- Does j wait for i, perhaps through others? -/
def waitsT (md : Region.Mode) (ops : Array Oper) : Nat → Nat → Nat → Bool
  | 0, _, _ => false
  | f + 1, j, i => match ops[j]? with
    | some oj => oj.after.any fun e => Region.binds md e && (e.on == i || waitsT md ops f e.on i)
    | none => false

/-- What is listed has all that it waits for listed. -/
def Down (md : Region.Mode) (ops : Array Oper) (listed : Array Bool) : Prop :=
  ∀ j oj, ops[j]? = some oj → listed.getD j false = true → ∀ e ∈ oj.after, Region.binds md e = true → listed.getD e.on false = true

theorem waitsT_listed {listed : Array Bool} (hd : Down md ops listed) {i : Nat} : ∀ (f j : Nat) (oj : Oper), ops[j]? = some oj → (∀ e ∈ oj.after, Region.binds md e = true → listed.getD e.on false = true) →
    waitsT md ops f j i = true → listed.getD i false = true
  | 0, _, _, _, _, h => by simp [waitsT] at h
  | f + 1, j, oj, hj, ha, h => by
    simp only [waitsT, hj] at h
    obtain ⟨e, he, hb⟩ := Array.any_eq_true'.1 h
    simp only [Bool.and_eq_true, Bool.or_eq_true, beq_iff_eq] at hb
    have hl := ha e he hb.1
    rcases hb.2 with h1 | h1
    · rw [← h1]; exact hl
    · cases ho : ops[e.on]? with
      | none =>
        cases f with
        | zero => simp [waitsT] at h1
        | succ f => simp [waitsT, ho] at h1
      | some ok => exact waitsT_listed hd f e.on ok ho (hd e.on ok ho hl) h1

theorem Down.set {listed : Array Bool} (hd : Down md ops listed) {i : Nat} (hi : i ∈ Region.ready md ops listed) : Down md ops (listed.setIfInBounds i true) := by
  intro j oj hj hl e he hb
  obtain ⟨_, oi, hoi, hall⟩ := mem_ready.1 hi
  by_cases hij : i = j
  · subst hij
    rw [hoi] at hj
    obtain rfl := Option.some.inj hj
    exact getD_set_true (hall e he hb)
  · rw [getD_set_ne false hij] at hl
    exact getD_set_true (hd j oj hj hl e he hb)

theorem first_G {mask : Nat → Bool} {i : Nat} {oi : Oper} {v : Value} (C : World → Prop) (hal : ∀ w o, C w → C (w.alloc o)) (univ : Bool) (hun : univ = true → ∀ w, C w) (N : Nat) (hi : ops[i]? = some oi) (hm : mask i = true) (hsel : ∀ (j : Nat) (o : Oper) cs b, ops[j]? = some o → o.op ≠ .select cs b)
    (hQ : ∀ c a d v w, Q (.panic c) (Act.put a d v) w → Q (.panic c) a w) :
    ∀ (fuel : Nat) (listed : Array Bool) (a : Act) (w : World), C w → Down md ops listed →
      (∀ j oj, ops[j]? = some oj → j ≠ i → listed.getD j true = false → waitsT md ops N j i = false → oi.apart ops oj = true ∧ (mask j = true ∨ laysB oj = true ∨ univ = true)) →
      i ∈ Region.ready md ops listed → YieldsIf P ops C oi v a →
      wpAnyG P md ops mask Q fuel (listed.setIfInBounds i true) (a.put oi.dst v) w → wpAnyG P md ops mask Q (fuel + 1) listed a w := by
  intro fuel
  induction fuel with
  | zero =>
    intro listed a w hE hd _ hr hy H
    refine ⟨fun h => (by rw [h] at hr; cases hr), fun j hj => ?_⟩
    by_cases hji : j = i
    · subst hji; exact hy.wpOp hi hE ⟨fun _ => rfl, H⟩
    · have := ready_mono hj hji
      rw [H.1] at this
      cases this
  | succ fuel ih =>
    intro listed a w hE hd hfree hr hy H
    refine ⟨fun h => (by rw [h] at hr; cases hr), fun j hj => ?_⟩
    by_cases hji : j = i
    · subst hji; exact hy.wpOp hi hE ⟨fun _ => rfl, H⟩
    · have h1 := H.2 j (ready_mono hj hji)
      obtain ⟨hjun, oj, hoj, hall⟩ := mem_ready.1 hj
      have hiun := (mem_ready.1 hr).1
      have hnot : waitsT md ops N j i = false := by
        cases hw : waitsT md ops N j i with
        | false => rfl
        | true =>
          have hl := waitsT_listed hd N j oj hoj hall hw
          rcases Nat.lt_or_ge i listed.size with h' | h'
          · simp [h'] at hl hiun; rw [hiun] at hl; cases hl
          · simp [Array.getElem?_eq_none h'] at hl
      obtain ⟨hap, hkind⟩ := hfree j oj hoj hji hjun hnot
      have h2 := wpOp_putIf hoj hap (fun cs b => hsel i oi cs b hi) (fun cs b => hsel j oj cs b hoj) (fun c a w => hQ c a _ _ w) hy h1
      have hfree' : ∀ k ok, ops[k]? = some ok → k ≠ i → (listed.setIfInBounds j true).getD k true = false →
          waitsT md ops N k i = false → oi.apart ops ok = true ∧ (mask k = true ∨ laysB ok = true ∨ univ = true) := fun k ok hk hki hun hno => by
        refine hfree k ok hk hki ?_ hno
        by_cases hjk : j = k
        · subst hjk; exact hjun
        · rw [getD_set_ne true hjk] at hun; exact hun
      have go : ∀ a' w', C w' → (YieldsIf P ops C oi v a' ∧ (mask j = true → w' = w) ∧ wpAnyG P md ops mask Q fuel ((listed.setIfInBounds i true).setIfInBounds j true) (a'.put oi.dst v) w') →
          (mask j = true → w' = w) ∧ wpAnyG P md ops mask Q (fuel + 1) (listed.setIfInBounds j true) a' w' := by
        intro a' w' hw h3
        refine ⟨h3.2.1, ih (listed.setIfInBounds j true) a' w' hw (hd.set hj) hfree' (ready_mono hr (Ne.symm hji)) h3.1 ?_⟩
        rw [Array.setIfInBounds_comm _ _ hji]
        exact h3.2.2
      rcases hkind with hk | hk | hk
      · exact wpOp_mono (fun a' w' h3 => go a' w' (by rw [h3.2.1 hk]; exact hE) h3) h2
      · refine wpOp_mono (fun a' w' h3 => go a' w' ?_ h3.1) (wpOp_lays hoj hk h2)
        rcases h3.2 with rfl | ⟨o, rfl⟩
        · exact hE
        · exact hal _ _ hE
      · exact wpOp_mono (fun a' w' h3 => go a' w' (hun hk w') h3) h2

/-- A calm operation: the same value in every world that is w₁ with new blocks, and nothing else. -/
def Oper.calm (P : Program) (o : Oper) (a : Act) (w₁ : World) (next : Act → Prop) : Prop :=
  ∃ v, (∀ os, (execOp a.eval o).run P (allocs w₁ os) = .ok (.value v) (allocs w₁ os)) ∧ next (a.put o.dst v)

attribute [go_sem] Oper.calm

/-- The calm operations, in the order of the text. -/
def wpCalm (P : Program) (ops : Array Oper) (w₁ : World) (Qa : Act → Prop) : List Oper → Act → Prop
  | [], a => Qa a
  | o :: rest, a => if Region.wanted o (yielded ops a.tmps) then Oper.calm P o a w₁ (wpCalm P ops w₁ Qa rest) else wpCalm P ops w₁ Qa rest (a.put o.dst undef)

theorem wpCalm_nil {w₁ : World} {Qa : Act → Prop} {a : Act} (h : Qa a) : wpCalm P ops w₁ Qa [] a := h
theorem wpCalm_step {w₁ : World} {Qa : Act → Prop} {a : Act} {o : Oper} {rest : List Oper}
    (h : ∀ K : Act → Prop, (∀ a, wpCalm P ops w₁ Qa rest a → K a) → if Region.wanted o (yielded ops a.tmps) then Oper.calm P o a w₁ K else K (a.put o.dst undef)) : wpCalm P ops w₁ Qa (o :: rest) a :=
  h _ (fun _ h => h)

def freeG (md : Region.Mode) (ops : Array Oper) (mask : Nat → Bool) (listed : Array Bool) (i : Nat) : Bool :=
  match ops[i]? with
  | none => false
  | some oi => mask i && (Region.ready md ops listed).contains i && (List.range ops.size).all fun j => j == i || listed.getD j true || waitsT md ops ops.size j i || match ops[j]? with
      | some oj => oi.apart ops oj && (mask j || laysB oj)
      | none => true

/-- After the calm ones (cs, in this order) only one order of the others (ns) is left. -/
def calmB (md : Region.Mode) (ops : Array Oper) (mask : Nat → Bool) (ns : List Nat) : List Nat → Array Bool → Bool
  | [], listed => seqI md ops mask ns listed
  | i :: cs, listed => freeG md ops mask listed i && calmB md ops mask ns cs (listed.setIfInBounds i true)
where
  seqI (md : Region.Mode) (ops : Array Oper) (mask : Nat → Bool) : List Nat → Array Bool → Bool
  | [], listed => (Region.ready md ops listed).isEmpty
  | k :: ns, listed => decide (Region.ready md ops listed = [k]) && !mask k && seqI md ops mask ns (listed.setIfInBounds k true)

def pickOps (l : List Oper) (is : List Nat) : List Oper := is.filterMap fun i => l[i]?

theorem seq_G {l : List Oper} {mask : Nat → Bool} : ∀ (ns : List Nat) (listed : Array Bool) (a : Act) (w : World), calmB.seqI md l.toArray mask ns listed = true → (∀ k ∈ ns, k < l.length) →
    wpList P l.toArray Q (pickOps l ns) a w → wpAnyG P md l.toArray mask Q ns.length listed a w
  | [], listed, a, w, hB, _, h => ⟨by simpa [calmB.seqI] using hB, h⟩
  | k :: ns, listed, a, w, hB, hl, h => by
    simp only [calmB.seqI, Bool.and_eq_true, decide_eq_true_eq, Bool.not_eq_true'] at hB
    obtain ⟨⟨hr, hmk⟩, hB'⟩ := hB
    have hk : k < l.length := hl k (by simp)
    have hp : pickOps l (k :: ns) = l[k] :: pickOps l ns := by simp [pickOps, List.getElem?_eq_getElem hk]
    rw [hp] at h
    refine ⟨fun h1 => (by rw [hr] at h1; cases h1), fun i hi => ?_⟩
    rw [hr] at hi
    obtain rfl : i = k := by simpa using hi
    have hw : wpOp P l.toArray Q i (wpList P l.toArray Q (pickOps l ns)) a w := by unfold wpOp; simp only [List.getElem?_toArray, List.getElem?_eq_getElem hk]; exact h
    exact wpOp_mono (fun a' w' h' => ⟨fun e => (by rw [hmk] at e; cases e), seq_G ns _ a' w' hB' (fun k hk => hl k (by simp [hk])) h'⟩) hw

theorem calm_G {l : List Oper} {mask : Nat → Bool} (w₁ : World) (ns : List Nat) (hs : Region.noSelect l.toArray = true) (hQ : ∀ c a d v w, Q (.panic c) (Act.put a d v) w → Q (.panic c) a w) (hn : ∀ k ∈ ns, k < l.length) :
    ∀ (cs : List Nat) (listed : Array Bool) (a : Act), Down md l.toArray listed → calmB md l.toArray mask ns cs listed = true → (∀ k ∈ cs, k < l.length) →
    wpCalm P l.toArray w₁ (fun a' => wpList P l.toArray Q (pickOps l ns) a' w₁) (pickOps l cs) a → wpAnyG P md l.toArray mask Q (cs.length + ns.length) listed a w₁
  | [], listed, a, _, hB, _, h => by
    rw [List.length_nil, Nat.zero_add]
    exact seq_G ns listed a w₁ hB hn h
  | i :: cs, listed, a, hd, hB, hl, h => by
    simp only [calmB, Bool.and_eq_true] at hB
    obtain ⟨hf, hB'⟩ := hB
    have hi : i < l.length := hl i (by simp)
    have h0 : l.toArray[i]? = some l[i] := by simp [hi]
    have hp : pickOps l (i :: cs) = l[i] :: pickOps l cs := by simp [pickOps, List.getElem?_eq_getElem hi]
    rw [hp] at h
    simp only [freeG, h0, Bool.and_eq_true, List.all_eq_true, List.mem_range] at hf
    obtain ⟨⟨hmk, hr⟩, hall⟩ := hf
    have hr' : i ∈ Region.ready md l.toArray listed := by simpa using hr
    obtain ⟨v, hy, hrest⟩ : ∃ v, YieldsIf P l.toArray (Ext w₁) l[i] v a ∧ wpCalm P l.toArray w₁ (fun a' => wpList P l.toArray Q (pickOps l ns) a' w₁) (pickOps l cs) (a.put (l[i]).dst v) := by
      unfold wpCalm at h
      split at h
      · rename_i hw
        obtain ⟨v, hv, hk⟩ := h
        exact ⟨v, .inl ⟨hw, fun w' ⟨os, e⟩ => by subst e; exact hv os⟩, hk⟩
      · rename_i hw
        exact ⟨undef, .inr ⟨by simpa using hw, rfl⟩, h⟩
    have : (i :: cs).length + ns.length = (cs.length + ns.length) + 1 := by simp; omega
    rw [this]
    refine first_G (Ext w₁) ext_alloc false (by simp) l.toArray.size h0 hmk (Region.noSelect_spec hs) hQ _ listed a w₁ ⟨[], (allocs_nil _).symm⟩ hd (fun j oj hj hne hun hw => ?_) hr' hy
      (calm_G w₁ ns hs hQ hn cs _ _ (hd.set hr') hB' (fun k hk => hl k (by simp [hk])) hrest)
    have h1 := hall j (Array.getElem?_eq_some_iff.1 hj).1
    simp only [hj, Bool.or_eq_true, beq_iff_eq, hne, false_or, hun, hw, Bool.false_eq_true, Bool.and_eq_true] at h1
    exact ⟨h1.1, h1.2.imp id .inl⟩

/-- A pure operation: the same value in every world. -/
def Oper.pureAt (P : Program) (o : Oper) (a : Act) (next : Act → Prop) : Prop :=
  ∃ v, (∀ w, (execOp a.eval o).run P w = .ok (.value v) w) ∧ next (a.put o.dst v)
attribute [go_sem] Oper.pureAt

def wpPure (P : Program) (ops : Array Oper) (Qa : Act → Prop) : List Oper → Act → Prop
  | [], a => Qa a
  | o :: rest, a => if Region.wanted o (yielded ops a.tmps) then Oper.pureAt P o a (wpPure P ops Qa rest) else wpPure P ops Qa rest (a.put o.dst undef)
theorem wpPure_nil {Qa : Act → Prop} {a : Act} (h : Qa a) : wpPure P ops Qa [] a := h
theorem wpPure_step {Qa : Act → Prop} {a : Act} {o : Oper} {rest : List Oper}
    (h : ∀ K : Act → Prop, (∀ a, wpPure P ops Qa rest a → K a) → if Region.wanted o (yielded ops a.tmps) then Oper.pureAt P o a K else K (a.put o.dst undef)) : wpPure P ops Qa (o :: rest) a :=
  h _ (fun _ h => h)

def freeP (md : Region.Mode) (ops : Array Oper) (mask : Nat → Bool) (listed : Array Bool) (i : Nat) : Bool :=
  match ops[i]? with
  | none => false
  | some oi => mask i && (Region.ready md ops listed).contains i && (List.range ops.size).all fun j => j == i || listed.getD j true || waitsT md ops ops.size j i || match ops[j]? with
      | some oj => oi.apart ops oj
      | none => true

def pureB (md : Region.Mode) (ops : Array Oper) (mask : Nat → Bool) (cs ns : List Nat) : List Nat → Array Bool → Bool
  | [], listed => calmB md ops mask ns cs listed
  | i :: ps, listed => freeP md ops mask listed i && pureB md ops mask cs ns ps (listed.setIfInBounds i true)

theorem pure_G {l : List Oper} {mask : Nat → Bool} (w₁ : World) (cs ns : List Nat) (hs : Region.noSelect l.toArray = true) (hQ : ∀ c a d v w, Q (.panic c) (Act.put a d v) w → Q (.panic c) a w) (hn : ∀ k ∈ ns, k < l.length) (hc : ∀ k ∈ cs, k < l.length) :
    ∀ (ps : List Nat) (listed : Array Bool) (a : Act), Down md l.toArray listed → pureB md l.toArray mask cs ns ps listed = true → (∀ k ∈ ps, k < l.length) →
    wpPure P l.toArray (wpCalm P l.toArray w₁ (fun a' => wpList P l.toArray Q (pickOps l ns) a' w₁) (pickOps l cs)) (pickOps l ps) a → wpAnyG P md l.toArray mask Q (ps.length + (cs.length + ns.length)) listed a w₁
  | [], listed, a, hd, hB, _, h => by
    rw [List.length_nil, Nat.zero_add]
    exact calm_G w₁ ns hs hQ hn cs listed a hd hB hc h
  | i :: ps, listed, a, hd, hB, hl, h => by
    simp only [pureB, Bool.and_eq_true] at hB
    obtain ⟨hf, hB'⟩ := hB
    have hi : i < l.length := hl i (by simp)
    have h0 : l.toArray[i]? = some l[i] := by simp [hi]
    have hp : pickOps l (i :: ps) = l[i] :: pickOps l ps := by simp [pickOps, List.getElem?_eq_getElem hi]
    rw [hp] at h
    simp only [freeP, h0, Bool.and_eq_true, List.all_eq_true, List.mem_range] at hf
    obtain ⟨⟨hmk, hr⟩, hall⟩ := hf
    have hr' : i ∈ Region.ready md l.toArray listed := by simpa using hr
    obtain ⟨v, hy, hrest⟩ : ∃ v, YieldsIf P l.toArray (fun _ => True) l[i] v a ∧ wpPure P l.toArray (wpCalm P l.toArray w₁ (fun a' => wpList P l.toArray Q (pickOps l ns) a' w₁) (pickOps l cs)) (pickOps l ps) (a.put (l[i]).dst v) := by
      unfold wpPure at h
      split at h
      · rename_i hw
        obtain ⟨v, hv, hk⟩ := h
        exact ⟨v, .inl ⟨hw, fun w' _ => hv w'⟩, hk⟩
      · rename_i hw
        exact ⟨undef, .inr ⟨by simpa using hw, rfl⟩, h⟩
    have : (i :: ps).length + (cs.length + ns.length) = (ps.length + (cs.length + ns.length)) + 1 := by simp; omega
    rw [this]
    refine first_G (fun _ => True) (fun _ _ _ => trivial) true (fun _ _ => trivial) l.toArray.size h0 hmk (Region.noSelect_spec hs) hQ _ listed a w₁ trivial hd (fun j oj hj hne hun hw => ?_) hr' hy
      (pure_G w₁ cs ns hs hQ hn hc ps _ _ (hd.set hr') hB' (fun k hk => hl k (by simp [hk])) hrest)
    have h1 := hall j (Array.getElem?_eq_some_iff.1 hj).1
    simp only [hj, Bool.or_eq_true, beq_iff_eq, hne, false_or, hun, hw, Bool.false_eq_true] at h1
    exact ⟨h1, .inr (.inr rfl)⟩

/-- A region that draws its order: first its pure operations ps, then its calm ones cs, then the others ns. -/
theorem wp_region_pure {id : Nat} {a : Act} {w : World} {l : List Oper} (ps cs ns : List Nat) (hm : P.follows .mixedOrders = true)
    (hB : (Region.noSelect l.toArray && pureB .any l.toArray (fun i => ps.contains i || cs.contains i) cs ns ps (Array.replicate l.length false) && (ps ++ (cs ++ ns)).all (fun k => decide (k < l.length)) && decide (ps.length + (cs.length + ns.length) = l.length)) = true)
    (hQ : ∀ c a d v w, Q (.panic c) (Act.put a d v) w → Q (.panic c) a w)
    (h : wpPure P l.toArray (wpCalm P l.toArray w.drew (fun a' => wpList P l.toArray Q (pickOps l ns) a' w.drew) (pickOps l cs)) (pickOps l ps) a) : (Code.region id l.toArray true).wp P Q a w := by
  simp only [Bool.and_eq_true, decide_eq_true_eq, List.all_eq_true] at hB
  obtain ⟨⟨⟨hs, hc⟩, hlt⟩, hlen⟩ := hB
  refine wp_region_any hm (wpAny_of_G (mask := fun i => ps.contains i || cs.contains i) _ _ _ _ ?_)
  have hd : Down .any l.toArray (Array.replicate l.length false) := fun j oj _ hl => by
    rw [getD_replicate_false] at hl; cases hl
  have := pure_G w.drew cs ns hs hQ (fun k hk => hlt k (by simp [hk])) (fun k hk => hlt k (by simp [hk])) ps (Array.replicate l.length false) a hd hc (fun k hk => hlt k (by simp [hk])) h
  rw [hlen] at this
  simpa using this

theorem wpList_guardless (ops' : Array Oper) : ∀ (l : List Oper), l.all (fun o => o.guard.isNone) = true → wpList P ops Q l = wpList P ops' Q l
  | [], _ => rfl
  | o :: rest, h => by
    simp only [List.all_cons, Bool.and_eq_true, Option.isNone_iff_eq_none] at h
    funext a w
    unfold wpList
    rw [wpList_guardless ops' rest h.2]
    simp only [Region.wanted, h.1, if_true]

/-- A region that draws its order: first its calm operations cs, then the others ns. -/
theorem wp_region_calm0 {id : Nat} {a : Act} {w : World} {l : List Oper} (cs ns : List Nat) (hm : P.follows .mixedOrders = true)
    (hB : (Region.noSelect l.toArray && calmB .any l.toArray (fun i => cs.contains i) ns cs (Array.replicate l.length false) && (cs ++ ns).all (fun k => decide (k < l.length)) && decide (cs.length + ns.length = l.length)) = true)
    (hQ : ∀ c a d v w, Q (.panic c) (Act.put a d v) w → Q (.panic c) a w)
    (h : wpCalm P l.toArray w.drew (fun a' => wpList P l.toArray Q (pickOps l ns) a' w.drew) (pickOps l cs) a) : (Code.region id l.toArray true).wp P Q a w := by
  simp only [Bool.and_eq_true, decide_eq_true_eq, List.all_eq_true] at hB
  obtain ⟨⟨⟨hs, hc⟩, hlt⟩, hlen⟩ := hB
  refine wp_region_any hm (wpAny_of_G (mask := fun i => cs.contains i) _ _ _ _ ?_)
  have hd : Down .any l.toArray (Array.replicate l.length false) := fun j oj _ hl => by
    rw [getD_replicate_false] at hl; cases hl
  have := calm_G w.drew ns hs hQ (fun k hk => hlt k (by simp [hk])) cs (Array.replicate l.length false) a hd hc (fun k hk => hlt k (by simp [hk])) h
  rw [hlen] at this
  simpa using this

/-- A region that draws its order: first its calm operations cs, then the others ns, which bear no guard. -/
theorem wp_region_calm {id : Nat} {a : Act} {w : World} {l : List Oper} (cs ns : List Nat) (hm : P.follows .mixedOrders = true)
    (hB : (Region.noSelect l.toArray && calmB .any l.toArray (fun i => cs.contains i) ns cs (Array.replicate l.length false) && (cs ++ ns).all (fun k => decide (k < l.length)) && decide (cs.length + ns.length = l.length) && (pickOps l ns).all (fun o => o.guard.isNone)) = true)
    (hQ : ∀ c a d v w, Q (.panic c) (Act.put a d v) w → Q (.panic c) a w)
    (h : wpCalm P l.toArray w.drew (fun a' => wpList P (pickOps l ns).toArray Q (pickOps l ns) a' w.drew) (pickOps l cs) a) : (Code.region id l.toArray true).wp P Q a w := by
  rw [Bool.and_eq_true] at hB
  exact wp_region_calm0 cs ns hm hB.1 hQ (by rw [wpList_guardless (pickOps l ns).toArray _ hB.2]; exact h)

/-- The same, where the others bear no guard: they stand as a list of their own. -/
theorem wp_region_pure' {id : Nat} {a : Act} {w : World} {l : List Oper} (ps cs ns : List Nat) (hm : P.follows .mixedOrders = true)
    (hB : (Region.noSelect l.toArray && pureB .any l.toArray (fun i => ps.contains i || cs.contains i) cs ns ps (Array.replicate l.length false) && (ps ++ (cs ++ ns)).all (fun k => decide (k < l.length)) && decide (ps.length + (cs.length + ns.length) = l.length)) = true)
    (hg : (pickOps l ns).all (fun o => o.guard.isNone) = true)
    (hQ : ∀ c a d v w, Q (.panic c) (Act.put a d v) w → Q (.panic c) a w)
    (h : wpPure P l.toArray (wpCalm P l.toArray w.drew (fun a' => wpList P (pickOps l ns).toArray Q (pickOps l ns) a' w.drew) (pickOps l cs)) (pickOps l ps) a) : (Code.region id l.toArray true).wp P Q a w :=
  wp_region_pure ps cs ns hm hB hQ (by rw [wpList_guardless (pickOps l ns).toArray _ hg]; exact h)

end
end Go.Bw
/-
  A region that draws its order and holds calls, met by a schedule: operations that read old cells or only compute are taken as soon as they may come up; of the others one at a time is left. No condition on a program.
-/
set_option linter.unusedVariables false
namespace Go.Bw
open Go.RowKit
section
variable {P : Program} {ops : Array Oper} {Q : Exit → Act → World → Prop} {S : World → Prop} {md : Region.Mode}

/-- The operation by itself. -/
def bare (o : Oper) : Oper := { o with after := #[], guard := none }

theorem wp_then {o : Oper} {a : Act} {w : World} {K K' : Act → World → Prop} (h : o.wp P a w K (Exit.then K' Q)) : o.wp P a w K Q := by
  unfold Oper.wp at *
  generalize (execOp a.eval o).run P w = r at *
  cases r with
  | ok n w' =>
    cases n <;> simp only [Oper.upon] at h ⊢ <;>
      first
        | exact h
        | exact Calls.mono h (fun e w'' he => by cases e <;> exact he)
  | halt x w' => cases x <;> simp only [Oper.upon] at h ⊢ <;> exact h

def wpFlat (P : Program) (ops : Array Oper) (Q : Exit → Act → World → Prop) (S : World → Prop) : List (Bool × Oper) → Act → World → Prop
  | [], a, w => Q .normal a w
  | (true, o) :: r, a, w => ∃ v, YieldsIf P ops S o v a ∧ wpFlat P ops Q S r (a.put o.dst v) w
  | (false, o) :: r, a, w => if Region.wanted o (yielded ops a.tmps) then o.wp P a w (fun a w => S w ∧ wpFlat P ops Q S r a w) Q ∨ (o.asks P a w ∧ LetsOut Q) else S w ∧ wpFlat P ops Q S r (a.put o.dst undef) w

def flatB (md : Region.Mode) (ops : Array Oper) : List (Bool × Nat) → Array Bool → Bool
  | [], listed => (Region.ready md ops listed).isEmpty
  | (true, i) :: r, listed => Region.free md ops listed i && (Region.ready md ops listed).contains i && flatB md ops r (listed.setIfInBounds i true)
  | (false, i) :: r, listed => decide (Region.ready md ops listed = [i]) && flatB md ops r (listed.setIfInBounds i true)

def pickFlat (l : List Oper) (is : List (Bool × Nat)) : List (Bool × Oper) := is.filterMap fun p => (l[p.2]?).map fun o => (p.1, o)

theorem flat_H {l : List Oper} (hs : Region.noSelect l.toArray = true) (hQ : ∀ c a d v w, Q (.panic c) (Act.put a d v) w → Q (.panic c) a w) :
    ∀ (is : List (Bool × Nat)) (listed : Array Bool) (a : Act) (w : World), flatB md l.toArray is listed = true → (∀ p ∈ is, p.2 < l.length) → S w →
      wpFlat P l.toArray Q S (pickFlat l is) a w → wpAnyH P md l.toArray Q S is.length listed a w
  | [], listed, a, w, hB, _, _, h => ⟨by simpa [flatB] using hB, h⟩
  | (true, i) :: is, listed, a, w, hB, hl, hS, h => by
    simp only [flatB, Bool.and_eq_true] at hB
    obtain ⟨⟨hf, hr⟩, hB'⟩ := hB
    have hi : i < l.length := hl (true, i) (by simp)
    have h0 : l.toArray[i]? = some l[i] := by simp [hi]
    have hp : pickFlat l ((true, i) :: is) = (true, l[i]) :: pickFlat l is := by simp [pickFlat, List.getElem?_eq_getElem hi]
    rw [hp] at h
    obtain ⟨v, hy, hk⟩ := h
    exact wpAnyH_take h0 hs hf hr (fun c a w => hQ c a _ _ w) hy hS (flat_H hs hQ is _ _ w hB' (fun p hp => hl p (by simp [hp])) hS hk)
  | (false, i) :: is, listed, a, w, hB, hl, hS, h => by
    simp only [flatB, Bool.and_eq_true, decide_eq_true_eq] at hB
    obtain ⟨hr, hB'⟩ := hB
    have hi : i < l.length := hl (false, i) (by simp)
    have hp : pickFlat l ((false, i) :: is) = (false, l[i]) :: pickFlat l is := by simp [pickFlat, List.getElem?_eq_getElem hi]
    rw [hp] at h
    refine wpAnyH_all hr (by simp) fun j hj => ?_
    obtain rfl : j = i := by simpa using hj
    have hw : wpOp P l.toArray Q j (fun a w => S w ∧ wpFlat P l.toArray Q S (pickFlat l is) a w) a w := by
      unfold wpOp
      simp only [List.getElem?_toArray, List.getElem?_eq_getElem hi]
      exact h
    exact wpOp_mono (fun a' w' h' => ⟨h'.1, flat_H hs hQ is _ a' w' hB' (fun p hp => hl p (by simp [hp])) h'.1 h'.2⟩) hw

theorem wp_region_flat {id : Nat} {a : Act} {w : World} {l : List Oper} (is : List (Bool × Nat)) (hm : P.follows .mixedOrders = true)
    (hB : (Region.noSelect l.toArray && flatB .any l.toArray is (Array.replicate l.length false) && is.all (fun p => decide (p.2 < l.length)) && decide (is.length = l.length)) = true)
    (hQ : ∀ c a d v w, Q (.panic c) (Act.put a d v) w → Q (.panic c) a w) (hS : S w.drew)
    (h : wpFlat P l.toArray Q S (pickFlat l is) a w.drew) : (Code.region id l.toArray true).wp P Q a w := by
  simp only [Bool.and_eq_true, decide_eq_true_eq, List.all_eq_true] at hB
  obtain ⟨⟨⟨hs, hc⟩, hlt⟩, hlen⟩ := hB
  refine wp_region_held hm (S := S) ?_
  have := flat_H hs hQ is (Array.replicate l.length false) a w.drew hc (fun p hp => hlt p hp) hS h
  rw [hlen] at this
  simpa using this

open Classical in
/-- The worlds that keep what there was, but for one row. -/
noncomputable def wof (w₁ : World) (row : Option Nat) (i : World) : World := if w₁.grownBy i row then i else w₁
theorem wof_of {w₁ i : World} {row : Option Nat} (h : w₁.grownBy i row) : wof w₁ row i = i := by unfold wof; rw [if_pos h]
theorem wof_grown (w₁ : World) (row : Option Nat) (i : World) : w₁.grownBy (wof w₁ row i) row := by
  unfold wof
  split
  · assumption
  · exact grown_refl _ _
theorem wof_at {w₁ : World} {row : Option Nat} {a : Addr} {v : Value} (h : w₁.cell? a = some v) (hne : row ≠ some a.block) (i : World) : (wof w₁ row i).cell? a = some v := by
  have hlt := World.block_lt_of_cell? w₁ a h
  exact (World.cell?_of_block ((wof_grown w₁ row i).block a.block hlt (fun e => hne e.symm))).trans h

/-- The same value in every world that keeps what there was, and nothing else. -/
def Oper.heldAt (P : Program) (w₁ : World) (row : Option Nat) (o : Oper) (a : Act) (next : Act → Prop) : Prop :=
  ∃ v, (∀ i, (execOp a.eval o).run P (wof w₁ row i) = .ok (.value v) (wof w₁ row i)) ∧ next (a.put o.dst v)
attribute [go_sem] Oper.heldAt

/-- The schedule, met at a relation that hides what is to come. -/
theorem flat_hide {w₁ : World} {row : Option Nat} {l : List (Bool × Oper)} {a : Act} {w : World}
    (h : ∀ W : List (Bool × Oper) → Act → World → Prop,
      Hid (∀ o r a w, (∀ K : Act → Prop, (∀ a, W r a w → K a) → if Region.wanted o (yielded ops a.tmps) then Oper.heldAt P w₁ row o a K else K (a.put o.dst undef)) → W ((true, o) :: r) a w) →
      Hid (∀ o r a w, Region.wanted o (yielded ops a.tmps) = true → (∀ K : Act → World → Prop, Hid (∀ a w, w₁.grownBy w row → W r a w → K a w) → wpList P [bare o].toArray (Exit.then K Q) [bare o] a w) → W ((false, o) :: r) a w) →
      Hid (∀ o r a w, w₁.grownBy w row → Region.wanted o (yielded ops a.tmps) = false → W r (a.put o.dst undef) w → W ((false, o) :: r) a w) →
      Hid (∀ a w, Q .normal a w → W [] a w) → W l a w) : wpFlat P ops Q (fun w => w₁.grownBy w row) l a w := by
  refine h (wpFlat P ops Q (fun w => w₁.grownBy w row)) (Lib.hid fun o r a w hk => ?_) (Lib.hid fun o r a w hw hk => ?_) (Lib.hid fun o r a w hS hw hk => ?_) (Lib.hid fun a w hk => hk)
  · have := hk _ (fun _ h => h)
    unfold wpFlat
    split at this
    · rename_i hw
      obtain ⟨v, hv, hn⟩ := this
      exact ⟨v, .inl ⟨hw, fun w' hw' => by have := hv w'; rwa [wof_of hw'] at this⟩, hn⟩
    · rename_i hw
      exact ⟨undef, .inr ⟨by simpa using hw, rfl⟩, this⟩
  · have := hk (fun a w => w₁.grownBy w row ∧ wpFlat P ops Q (fun w => w₁.grownBy w row) r a w) (Lib.hid fun _ _ h1 h2 => ⟨h1, h2⟩)
    unfold wpList at this
    rw [if_pos (show Region.wanted (bare o) (yielded [bare o].toArray a.tmps) = true from rfl)] at this
    unfold wpFlat
    rw [if_pos hw]
    rcases this with h1 | ⟨h1, h2⟩
    · exact .inl (wp_then h1)
    · exact .inr ⟨h1, h2⟩
  · unfold wpFlat
    rw [if_neg (by simp [hw])]
    exact ⟨hS, hk⟩
/-- The region, met so. -/
theorem wp_region_mix {id : Nat} {a : Act} {w : World} {l : List Oper} (row : Option Nat) (is : List (Bool × Nat)) (hm : P.follows .mixedOrders = true)
    (hB : (Region.noSelect l.toArray && flatB .any l.toArray is (Array.replicate l.length false) && is.all (fun p => decide (p.2 < l.length)) && decide (is.length = l.length)) = true)
    (hQ : ∀ c a d v w, Q (.panic c) (Act.put a d v) w → Q (.panic c) a w)
    (h : wpFlat P l.toArray Q (fun w' => w.drew.grownBy w' row) (pickFlat l is) a w.drew) : (Code.region id l.toArray true).wp P Q a w :=
  wp_region_flat is hm hB hQ (grown_refl _ _) h
end
end Go.Bw
/-
  More on pieces: those that only go on; those that do not return. No condition on a program.
-/
set_option linter.unusedVariables false
namespace Go.Bw
open Go.RowKit
/-- An ending that only goes on. -/
def OnlyN (J : Rel) : Exit → Act → World → Prop
  | .normal, a, w => J a w
  | _, _, _ => False
theorem T3.leafN {P : Program} {R S X T : Rel} {s : Code} {id : Nat} (h : ∀ JS : Rel, (∀ a w, S a w → JS a w) → ∀ a w, R a w → s.wp P (OnlyN JS) a w) : T3 P R s S X id T := by
  intro a w hR
  refine wp_mono (h S (fun _ _ q => q) a w hR) ?_
  intro e a w q
  cases e with
  | normal => exact q
  | _ => exact q.elim
theorem T3.noT {P : Program} {R S X T : Rel} {s : Code} {id : Nat} (h : T3 P R s S X id No) : T3 P R s S X id T :=
  h.mono (fun _ _ q => q) (fun _ _ q => q) (fun _ _ q => q.elim) (fun _ _ q => q)
theorem grown_row {w w' : World} (g : w.grownBy w' none) (row : Option Nat) : w.grownBy w' row := ⟨g.os, g.tape, g.output, g.size, fun k h _ => g.block k h (by simp)⟩
end Go.Bw
/-
  Lots, the program's small functions: the sum of weights, the team that a number draws, the first free place. Conditions: right weights; a place is free.
-/
set_option linter.unusedVariables false
namespace Go.Proofs.Ytkdimgghljklmaa
open Go.RowKit Go.Bw
def sumTo (ws : List Int) (k : Int) : Int := (ws.take k.toNat).sum
theorem sumTo_succ (ws : List Int) (k : Int) (h0 : 0 ≤ k) (h1 : k < ws.length) : sumTo ws (k + 1) = sumTo ws k + geti ws k := by
  unfold sumTo
  rw [show (k + 1).toNat = k.toNat + 1 by omega, List.take_succ_eq_append_getElem (by omega), List.sum_append]
  simp [geti, show k.toNat < ws.length by omega]
theorem geti_lo {ws : List Int} (hw : ∀ x ∈ ws, 1 ≤ x ∧ x ≤ 1000) {k : Int} (h0 : 0 ≤ k) (h1 : k < ws.length) : 1 ≤ geti ws k ∧ geti ws k ≤ 1000 := by
  have : geti ws k = ws[k.toNat]'(by omega) := by simp [geti, show k.toNat < ws.length by omega]
  rw [this]
  exact hw _ (List.getElem_mem _)
theorem sumTo_le {ws : List Int} (hw : ∀ x ∈ ws, 1 ≤ x ∧ x ≤ 1000) (k : Int) (h0 : 0 ≤ k) (h1 : k ≤ ws.length) : 0 ≤ sumTo ws k ∧ sumTo ws k ≤ 1000 * k := by
  have := sum_ge (ws.take k.toNat) fun x hx => hw x (List.mem_of_mem_take hx)
  unfold sumTo
  rw [List.length_take] at this
  omega
theorem sumTo_all (ws : List Int) : sumTo ws ws.length = ws.sum := by unfold sumTo; simp

set_option maxRecDepth 100000 in
set_option maxHeartbeats 1000000 in
theorem sum_prog (v : Value) (n : Nat) (ws : List Int) (base : Nat) (w : World) (h : Row w base 1 v n (ws.map (.int .i64))) (hw : ∀ x ∈ ws, 1 ≤ x ∧ x ≤ 1000) (hn : n ≤ 14) :
    Calls Try.prog 38 #[v] w fun e w' => e = .returned (.int .i64 ws.sum) ∧ w = w' := by
  obtain ⟨hl, hc⟩ := h.ints
  obtain ⟨p, c, hv⟩ := h.shape
  clear h
  subst hv
  have HL := Lib.hid hl
  have HA := Lib.hid (sumTo_all ws)
  go_enter Try.func38, Try.ntmps38
  clear hl
  go_wp2_with fail
  go_loop [8, 3] (fun i s => ∃ k : Int, 0 ≤ k ∧ k ≤ n ∧ i = .int .i64 k ∧ s = .int .i64 (sumTo ws k)) (fun i _ => n - (intOf i).toNat)
  case atStart => exact ⟨0, by omega, by omega, rfl, rfl⟩
  case round =>
    obtain ⟨k, hk0, hk1, rfl, rfl⟩ := hrel
    have hsb := sumTo_le hw k hk0 (by rw [HL.out]; exact hk1)
    by_cases hlt : k < n
    · rcases hc with ⟨hv, h0⟩ | ⟨b, off, cap, hv, _, hbs, hnc, hcm, hcell⟩
      · omega
      simp only [Value.slice.injEq] at hv
      obtain ⟨rfl, _, rfl⟩ := hv
      have c1 := hcell k hk0 hlt
      have hg := geti_lo hw hk0 (by rw [HL.out]; exact hlt)
      have Hs := Lib.hid (sumTo_succ ws k hk0 (by rw [HL.out]; exact hlt))
      clear hcell
      generalize geti ws k = x at *
      generalize sumTo ws k = s at *
      go_wp2_with fail
      go_round
      case rel => exact ⟨k + 1, by omega, by omega, rfl, by rw [Hs.out]⟩
      case measure => simp [intOf]; omega
    · have hk : k = n := by omega
      have HE := Lib.hid (show sumTo ws k = ws.sum by rw [hk, ← HL.out]; exact HA.out)
      clear hk
      go_wp2_with fail
      go_ret
      exact ⟨ret_int HE.out, rfl⟩

set_option maxRecDepth 100000 in
set_option maxHeartbeats 1000000 in
theorem drawn_prog (v : Value) (n : Nat) (ws : List Int) (x : Int) (base : Nat) (w : World) (h : Row w base 1 v n (ws.map (.int .i64))) (hw : ∀ x ∈ ws, 1 ≤ x ∧ x ≤ 1000) (hn : n ≤ 14) (h0 : 0 ≤ x) (hx : x < ws.sum) :
    Calls Try.prog 40 #[v, .int .i64 x] w fun e w' => e = .returned (.int .i64 (drawnF ws x : Nat)) ∧ w = w' := by
  obtain ⟨hl, hc⟩ := h.ints
  obtain ⟨p, c, hv⟩ := h.shape
  clear h
  subst hv
  have HL := Lib.hid hl
  have hsb := sum_ge ws hw
  have hx14 : x ≤ 14000 := by omega
  have HX := Lib.hid hx
  go_enter Try.func40, Try.ntmps40
  clear hl hx hsb
  go_wp2_with fail
  go_loop [5, 1] (fun i s => ∃ (k y : Int), 0 ≤ k ∧ k ≤ n ∧ i = .int .i64 k ∧ s = .int .i64 y ∧ 0 ≤ y ∧ y ≤ 14000 ∧ Hid ((y < (ws.drop k.toNat).sum) ∧ ((drawnF ws x : Nat) : Int) = k + (drawnF (ws.drop k.toNat) y : Nat))) (fun i _ => n - (intOf i).toNat)
  case atStart => exact ⟨0, x, by omega, by omega, rfl, rfl, h0, hx14, Lib.hid ⟨HX.out, by simp⟩⟩
  case round =>
    obtain ⟨k, y, hk0, hk1, rfl, rfl, hy0, hy1, HR⟩ := hrel
    have hlt : k < n := by
      refine Decidable.byContradiction fun hge => ?_
      have h1 := HR.out.1
      have hl := HL.out
      rw [List.drop_of_length_le (by omega)] at h1
      simp at h1
      omega
    rcases hc with ⟨hv, h0⟩ | ⟨b, off, cap, hv, _, hbs, hnc, hcm, hcell⟩
    · omega
    simp only [Value.slice.injEq] at hv
    obtain ⟨rfl, _, rfl⟩ := hv
    have c1 := hcell k hk0 hlt
    have hg := geti_lo hw hk0 (by rw [HL.out]; exact hlt)
    have hkl : k.toNat < ws.length := by have := HL.out; omega
    have hge : geti ws k = ws[k.toNat] := by simp [geti, hkl]
    have Hs := Lib.hid (drawnF_step ws k.toNat y hkl)
    have Ht := Lib.hid (sum_drop ws k.toNat hkl)
    rw [← hge] at Hs Ht
    have HK := Lib.hid (show (k + 1).toNat = k.toNat + 1 by omega)
    clear hcell hge hkl
    generalize geti ws k = g at *
    by_cases hle : g ≤ y
    · have HLE := Lib.hid hle
      go_wp2_with fail
      go_round
      case rel =>
        refine ⟨k + 1, y - g, by omega, by omega, rfl, rfl, by omega, by omega, Lib.hid ⟨?_, ?_⟩⟩
        · rw [HK.out]; have := HR.out.1; have := Ht.out; omega
        · rw [HK.out]
          have h2 := HR.out.2
          rw [Hs.out, if_pos HLE.out] at h2
          rw [h2]
          omega
      case measure => simp [intOf]; omega
    · have hlb : decide (g ≤ y) = false := by simp; omega
      have HE := Lib.hid (show ((drawnF ws x : Nat) : Int) = k by have h2 := HR.out.2; rw [Hs.out, if_neg hle] at h2; rw [h2]; omega)
      clear hle
      go_wp2_with fail
      go_ret
      exact ⟨ret_int HE.out.symm, rfl⟩
end Go.Proofs.Ytkdimgghljklmaa
/-
  Lots: the first place that is free, the program's and the reference's search. Condition: a place is free.
-/
set_option linter.unusedVariables false
namespace Go.Proofs.Ytkdimgghljklmaa
open Go.RowKit Go.Bw
theorem contains_l (v : Value) (n : Nat) (l : List Int) (x : Int) (base : Nat) (w : World) (h : Row w base 1 v n (l.map (.int .i64))) :
    Calls Try.prog 49 #[v, .int .i64 x] w fun e w' => e = .returned (.bool (l.contains x)) ∧ w = w' := by
  obtain ⟨hl, hc⟩ := h.ints
  subst hl
  rcases hc with ⟨rfl, h0⟩ | ⟨b, off, cap, rfl, _, hbs, hnc, hcm, hcell⟩
  · refine (Try.slices_Contains_int_empty none 0 x w).mono ?_
    rintro e w' ⟨rfl, rfl⟩
    have : l = [] := List.length_eq_zero_iff.1 h0
    subst this
    exact ⟨rfl, rfl⟩
  · unfold maxLen at hcm
    refine (Try.slices_Contains_int b off l.length cap l x w (Nat.le_refl _) (by omega) (fun j hj => ?_)).mono ?_
    · have := hcell (j : Int) (by omega) (by omega)
      simpa [geti, List.getD, hj] using this
    · rintro e w' ⟨rfl, rfl⟩
      rw [List.take_length]
      exact ⟨rfl, rfl⟩
def natsL (h : List Nat) : List Int := h.map fun (j : Nat) => (j : Int)
theorem natsL_contains (h : List Nat) (c : Int) (h0 : 0 ≤ c) : (natsL h).contains c = h.contains c.toNat := by
  rw [Bool.eq_iff_iff]
  simp only [natsL, List.contains_iff_mem, List.mem_map]
  constructor
  · rintro ⟨j, hj, e⟩
    rw [show c.toNat = j by omega]; exact hj
  · intro hc
    exact ⟨c.toNat, hc, by omega⟩
/-- Who has a place. -/
def takenC (n : Nat) (h : List Nat) : List Value := (List.range n).map fun j => Value.bool (h.contains j)
theorem takenC_at (n : Nat) (h : List Nat) (j : Nat) (hj : j < n) : (takenC n h)[j]? = some (.bool (h.contains j)) := by simp [takenC, hj]
def RingI (n : Nat) (h : List Nat) (i f : Nat) (c : Int) : Prop := (0 ≤ c ∧ c < n) ∧ ringF n (fun j => h.contains j) n i = ringF n (fun j => h.contains j) f c.toNat ∧ ∃ d, d < f ∧ h.contains ((c.toNat + d) % n) = false
theorem RingI.start {n : Nat} {h : List Nat} (hh : Have n h) (hl : h.length < n) {i : Nat} (hi : i < n) : RingI n h i n (i : Int) := by
  refine ⟨by omega, by simp, ?_⟩
  obtain ⟨k, hk, hf⟩ := exists_free hh hl
  obtain ⟨d, hd, e⟩ := ring_far hi hk
  exact ⟨d, hd, by simp only [Int.toNat_natCast]; rw [e]; exact hf⟩
theorem RingI.stop {n : Nat} {h : List Nat} {i f : Nat} {c : Int} (hr : RingI n h i f c) (hc : h.contains c.toNat = false) : c = (nxt n h i : Nat) := by
  obtain ⟨⟨h0, h1⟩, he, d, hd, _⟩ := hr
  unfold nxt
  rw [he]
  cases f with
  | zero => omega
  | succ f => unfold ringF; rw [hc]; simp; omega
theorem RingI.go {n : Nat} {h : List Nat} {i f : Nat} {c : Int} (hr : RingI n h i f c) (hc : h.contains c.toNat = true) : ∃ f', f' < f ∧ RingI n h i f' ((c + 1) % n) := by
  obtain ⟨⟨h0, h1⟩, he, d, hd, hp⟩ := hr
  have hd0 : d ≠ 0 := by
    intro e
    rw [e, Nat.add_zero, Nat.mod_eq_of_lt (by omega), hc] at hp
    cases hp
  have hn : (0 : Int) < n := by omega
  have hm0 := Int.emod_nonneg (c + 1) (show (n : Int) ≠ 0 by omega)
  have hm1 := Int.emod_lt_of_pos (c + 1) hn
  have ht : ((c + 1) % (n : Int)).toNat = (c.toNat + 1) % n := by
    have : (c + 1) % (n : Int) = (((c.toNat + 1) % n : Nat) : Int) := by
      rw [Int.natCast_emod]
      congr 1
      omega
    omega
  cases f with
  | zero => omega
  | succ f =>
    refine ⟨f, Nat.lt_succ_self f, ⟨hm0, hm1⟩, ?_, d - 1, by omega, ?_⟩
    · rw [he, ht]
      conv => lhs; unfold ringF
      rw [hc]; rfl
    · rw [ht, ring_step hd0]; exact hp
theorem row_shape2 {w : World} {base sz n : Nat} {v : Value} {cs : List Value} (h : Row w base sz v n cs) : ∃ a c, v = .slice a n c := h.shape
noncomputable def freeP : Code := (Try.f39.body).getD .skip
set_option maxRecDepth 100000 in
theorem fr_freeP (f : Nat → Value) : frame 15 f = ⟨#[f 0, f 1, f 2, f 3, f 4, f 5, f 6, f 7, f 8, f 9, f 10, f 11, f 12, f 13, f 14], []⟩ := by rfl
set_option maxRecDepth 100000 in
set_option maxHeartbeats 1000000 in
theorem fpA (w0 : World) (vt : Value) (n : Nat) (h : List Nat) (i : Nat) (b0 : Nat) (ht : Row w0 b0 1 vt n (takenC n h)) (hn : n ≤ 1000) (f : Nat) (c : Int) (hr : RingI n h i f c) : T3 Try.prog (fun a w => (w = w0) ∧ Fr 15 [(0, vt), (1, .int .i64 (c))] a) (sel [1, 0, 4, 4, 0, 0] freeP) (fun a w => ∃ q, Fr 15 ((8, .bool q) :: [(0, vt), (1, .int .i64 (c))]) a ∧ ((q = h.contains c.toNat) ∧ w = w0)) No 9 No := by
  obtain ⟨⟨hc0, hc1⟩, _⟩ := hr
  refine T3.leaf ?_
  rintro Q JS JX JT K hS hK hX hE hT hR a w ⟨hw, ⟨fr, rfl, q0, q1, _⟩⟩
  subst hw
  obtain ⟨hl, hcs⟩ := ht
  rcases hcs with ⟨rfl, h0⟩ | ⟨bz, off, cap, rfl, _, hbz, hnc, hcm, hcell⟩
  · omega
  have c1 := hcell c.toNat _ (takenC_at n h c.toNat (by omega))
  clear hcell
  generalize h.contains c.toNat = q at *
  rw [fr_freeP, show fr 0 = _ from q0, show fr 1 = _ from q1]
  clear q0 q1
  conv => arg 2; whnf
  go_wp2_with fail
  refine Met.intro (hS _ _ ?_)
  exact ⟨q, Fr.of _ rfl ⟨rfl, rfl, rfl, trivial⟩, rfl, rfl⟩

set_option maxRecDepth 100000 in
set_option maxHeartbeats 1000000 in
theorem fpB (w0 : World) (vt : Value) (n : Nat) (h : List Nat) (i : Nat) (b0 : Nat) (ht : Row w0 b0 1 vt n (takenC n h)) (hn : n ≤ 1000) (f : Nat) (c : Int) (hr : RingI n h i f c) : T3 Try.prog (fun a w => (w = w0) ∧ Fr 15 [(0, vt), (1, .int .i64 (c))] a) (sel [1, 0, 4, 4, 1, 4] freeP) (fun a w => (w = w0) ∧ Fr 15 [(0, vt), (1, .int .i64 ((c + 1) % n))] a) No 9 No := by
  refine T3.leaf ?_
  rintro Q JS JX JT K hS hK hX hE hT hR a w ⟨hw, ⟨fr, rfl, q0, q1, _⟩⟩
  obtain ⟨⟨hc0, hc1⟩, _⟩ := hr
  subst hw
  obtain ⟨p1, c1, hv1⟩ := row_shape2 ht
  subst hv1
  have hn0 : ¬ ((n : Int) = 0) := by omega
  have hm0 := Int.emod_nonneg (c + 1) (show (n : Int) ≠ 0 by omega)
  have hm1 := Int.emod_lt_of_pos (c + 1) (show (0 : Int) < n by omega)
  have hr1 : Int.tmod (c + 1) n = (c + 1) % n := Int.tmod_eq_emod_of_nonneg (by omega)
  have hr2 : IntKind.i64.wrap ((c + 1) % n) = (c + 1) % n := IntWalk.i64_in _ (by omega)
  rw [fr_freeP, show fr 0 = _ from q0, show fr 1 = _ from q1]
  clear q0 q1
  conv => arg 2; whnf
  go_wp2_with fail
  refine Met.intro (hS _ _ ?_)
  exact ⟨rfl, Fr.of _ rfl ⟨rfl, rfl, trivial⟩⟩

set_option maxRecDepth 100000 in
set_option maxHeartbeats 1000000 in
theorem fpL (w0 : World) (vt : Value) (n : Nat) (h : List Nat) (i : Nat) (b0 : Nat) (ht : Row w0 b0 1 vt n (takenC n h)) (hn : n ≤ 1000) (hh : Have n h) (hlt : h.length < n) (hi : i < n) : T3 Try.prog (fun a w => (w = w0) ∧ Fr 15 [(0, vt), (1, .int .i64 ((i : Nat)))] a) (sel [1, 0] freeP) (fun a w => (w = w0) ∧ Fr 15 [(1, .int .i64 (nxt n h i : Nat))] a) No 9 No := by
  refine T3.loop (c := (sel [1, 0, 4, 4] freeP)) (fun f a w => ∃ c : Int, RingI n h i f c ∧ (w = w0 ∧ Fr 15 [(0, vt), (1, .int .i64 (c))] a)) (fun a w q => ⟨n, (i : Nat), RingI.start hh hlt hi, q⟩) (fun f => T3.ex fun c => T3.pure fun hr => ?_)
  refine T3.seq (s := (sel [1, 0, 4, 4, 0] freeP)) (c := (sel [1, 0, 4, 4, 1] freeP)) (S := fun a w => (h.contains c.toNat = true) ∧ (w = w0 ∧ Fr 15 [(0, vt), (1, .int .i64 (c))] a)) ?_ (T3.pure fun hc => T3.block (id' := 1) (c := (sel [1, 0, 4, 4, 1, 4] freeP)) (by decide) ?_)
  · refine T3.test (s := (sel [1, 0, 4, 4, 0, 0] freeP)) (x := .skip) (y := .exit 0) (C := fun q => q = h.contains c.toNat) (W := fun w => w = w0) (by decide) ((fpA w0 vt n h i b0 ht hn f c hr).noX) (T3.skip ?_) (T3.exit ?_)
    · rintro a w ⟨hF, hq, hw⟩
      exact ⟨hq.symm, hw, hF.tail⟩
    · rintro a w ⟨hq, hw, hF⟩
      have e := hr.stop hq.symm
      exact ⟨hw, by rw [← e]; exact hF.sub (by simp)⟩
  · obtain ⟨f', hf', hr'⟩ := hr.go hc
    exact ((fpB w0 vt n h i b0 ht hn f c hr).noX).post (fun a w q => ⟨f', hf', _, hr', q⟩)

set_option maxRecDepth 100000 in
set_option maxHeartbeats 1000000 in
theorem fpS (w0 : World) (vt : Value) (n : Nat) (h : List Nat) (i : Nat) (b0 : Nat) (ht : Row w0 b0 1 vt n (takenC n h)) (hn : n ≤ 1000) : T3 Try.prog (fun a w => (w = w0) ∧ Fr 15 [(0, vt), (1, .int .i64 ((i : Nat)))] a) (sel [0] freeP) (fun a w => (w = w0) ∧ Fr 15 [(0, vt), (1, .int .i64 ((i : Nat)))] a) No 9 No := by
  refine T3.leaf ?_
  rintro Q JS JX JT K hS hK hX hE hT hR a w ⟨hw, ⟨fr, rfl, q0, q1, _⟩⟩
  obtain ⟨p1, c1, hv1⟩ := row_shape2 ht
  subst hv1
  subst hw
  rw [fr_freeP, show fr 0 = _ from q0, show fr 1 = _ from q1]
  clear q0 q1
  conv => arg 2; whnf
  go_wp2_with fail
  refine Met.intro (hS _ _ ?_)
  exact ⟨rfl, Fr.of _ rfl ⟨rfl, rfl, trivial⟩⟩

set_option maxRecDepth 100000 in
set_option maxHeartbeats 1000000 in
theorem fpR (w0 : World) (vt : Value) (n : Nat) (h : List Nat) (i : Nat) (b0 : Nat) (ht : Row w0 b0 1 vt n (takenC n h)) (hn : n ≤ 1000) : T3 Try.prog (fun a w => (w = w0) ∧ Fr 15 [(1, .int .i64 (nxt n h i : Nat))] a) (sel [1, 1, 0] freeP) (fun a w => (w = w0) ∧ Fr 15 [(4, .int .i64 (nxt n h i : Nat))] a) No 9 No := by
  refine T3.leaf ?_
  rintro Q JS JX JT K hS hK hX hE hT hR a w ⟨hw, ⟨fr, rfl, q1, _⟩⟩
  subst hw
  rw [fr_freeP, show fr 1 = _ from q1]
  clear q1
  conv => arg 2; whnf
  go_wp2_with fail
  refine Met.intro (hS _ _ ?_)
  exact ⟨rfl, Fr.of _ rfl ⟨rfl, trivial⟩⟩

set_option maxRecDepth 100000 in
set_option maxHeartbeats 1000000 in
theorem free_prog (w0 : World) (vt : Value) (n : Nat) (h : List Nat) (i : Nat) (b0 : Nat) (ht : Row w0 b0 1 vt n (takenC n h)) (hn : n ≤ 1000) (hh : Have n h) (hlt : h.length < n) (hi : i < n) : Calls Try.prog 39 #[vt, .int .i64 (i : Nat)] w0 fun e w => e = .returned (.int .i64 (nxt n h i : Nat)) ∧ w = w0 := by
  have hall : T3 Try.prog (fun a w => (w = w0) ∧ Fr 15 [(0, vt), (1, .int .i64 ((i : Nat)))] a) freeP No No 9 (fun a w => (w = w0) ∧ Fr 15 [(4, .int .i64 (nxt n h i : Nat))] a) := by
    refine T3.seq (s := (sel [0] freeP)) (c := (sel [1] freeP)) (T3.noT (fpS w0 vt n h i b0 ht hn)) ?_
    refine T3.seq (s := (sel [1, 0] freeP)) (c := (sel [1, 1] freeP)) (T3.noT (fpL w0 vt n h i b0 ht hn hh hlt hi)) ?_
    refine T3.seq (s := (sel [1, 1, 0] freeP)) (c := (sel [1, 1, 1] freeP)) (T3.noT (fpR w0 vt n h i b0 ht hn)) ?_
    exact T3.ret (fun a w q => q)
  go_enter Try.func39, Try.ntmps39
  refine T3.done (s := freeP) hall ⟨rfl, Fr.of _ rfl ⟨rfl, rfl, trivial⟩⟩ ?_
  rintro a w ⟨rfl, fr, rfl, q4, _⟩
  rw [fr_freeP, show fr 4 = _ from q4]
  go_ret
  exact ⟨rfl, rfl⟩

noncomputable def placedR : Code := (Try.f48.body).getD .skip
set_option maxRecDepth 100000 in
theorem fr_placedR (f : Nat → Value) : frame 15 f = ⟨#[f 0, f 1, f 2, f 3, f 4, f 5, f 6, f 7, f 8, f 9, f 10, f 11, f 12, f 13, f 14], []⟩ := by rfl
set_option maxRecDepth 100000 in
set_option maxHeartbeats 1000000 in
theorem plA (w0 : World) (vh : Value) (n : Nat) (h : List Nat) (i : Nat) (b0 : Nat) (ht : Row w0 b0 1 vh h.length ((natsL h).map (.int .i64))) (hn : n ≤ 1000) (f : Nat) (c : Int) (hr : RingI n h i f c) : T3 Try.prog (fun a w => (w = w0) ∧ Fr 15 [(0, .int .i64 n), (1, .int .i64 (c)), (2, vh)] a) (sel [1, 0, 4, 4, 0, 0] placedR) (fun a w => ∃ q, Fr 15 ((9, .bool q) :: [(0, .int .i64 n), (1, .int .i64 (c)), (2, vh)]) a ∧ ((q = h.contains c.toNat) ∧ w = w0)) No 9 No := by
  obtain ⟨⟨hc0, hc1⟩, _⟩ := hr
  refine T3.leaf ?_
  rintro Q JS JX JT K hS hK hX hE hT hR a w ⟨hw, ⟨fr, rfl, q0, q1, q2, _⟩⟩
  subst hw
  have HC := contains_l vh h.length (natsL h) c b0 w ht
  rw [natsL_contains h c hc0] at HC
  have HD := Lib.hid HC
  clear HC
  obtain ⟨p1, c1, hv1⟩ := ht.shape
  subst hv1
  generalize h.contains c.toNat = q at *
  rw [fr_placedR, show fr 0 = _ from q0, show fr 1 = _ from q1, show fr 2 = _ from q2]
  clear q0 q1 q2
  conv => arg 2; whnf
  go_wp2_with fail
  refine HD.out.mono ?_
  rintro e w1 ⟨rfl, rfl⟩
  go_wp2_with fail
  refine Met.intro (hS _ _ ?_)
  exact ⟨q, Fr.of _ rfl ⟨rfl, rfl, rfl, rfl, trivial⟩, rfl, rfl⟩

set_option maxRecDepth 100000 in
set_option maxHeartbeats 1000000 in
theorem plB (w0 : World) (vh : Value) (n : Nat) (h : List Nat) (i : Nat) (b0 : Nat) (ht : Row w0 b0 1 vh h.length ((natsL h).map (.int .i64))) (hn : n ≤ 1000) (f : Nat) (c : Int) (hr : RingI n h i f c) : T3 Try.prog (fun a w => (w = w0) ∧ Fr 15 [(0, .int .i64 n), (1, .int .i64 (c)), (2, vh)] a) (sel [1, 0, 4, 4, 1, 4] placedR) (fun a w => (w = w0) ∧ Fr 15 [(0, .int .i64 n), (1, .int .i64 ((c + 1) % n)), (2, vh)] a) No 9 No := by
  refine T3.leaf ?_
  rintro Q JS JX JT K hS hK hX hE hT hR a w ⟨hw, ⟨fr, rfl, q0, q1, q2, _⟩⟩
  obtain ⟨⟨hc0, hc1⟩, _⟩ := hr
  subst hw
  have hn0 : ¬ ((n : Int) = 0) := by omega
  have hm0 := Int.emod_nonneg (c + 1) (show (n : Int) ≠ 0 by omega)
  have hm1 := Int.emod_lt_of_pos (c + 1) (show (0 : Int) < n by omega)
  have hr1 : Int.tmod (c + 1) n = (c + 1) % n := Int.tmod_eq_emod_of_nonneg (by omega)
  have hr2 : IntKind.i64.wrap ((c + 1) % n) = (c + 1) % n := IntWalk.i64_in _ (by omega)
  rw [fr_placedR, show fr 0 = _ from q0, show fr 1 = _ from q1, show fr 2 = _ from q2]
  clear q0 q1 q2
  conv => arg 2; whnf
  go_wp2_with fail
  refine Met.intro (hS _ _ ?_)
  exact ⟨rfl, Fr.of _ rfl ⟨rfl, rfl, rfl, trivial⟩⟩

set_option maxRecDepth 100000 in
set_option maxHeartbeats 1000000 in
theorem plL (w0 : World) (vh : Value) (n : Nat) (h : List Nat) (i : Nat) (b0 : Nat) (ht : Row w0 b0 1 vh h.length ((natsL h).map (.int .i64))) (hn : n ≤ 1000) (hh : Have n h) (hlt : h.length < n) (hi : i < n) : T3 Try.prog (fun a w => (w = w0) ∧ Fr 15 [(0, .int .i64 n), (1, .int .i64 ((i : Nat))), (2, vh)] a) (sel [1, 0] placedR) (fun a w => (w = w0) ∧ Fr 15 [(1, .int .i64 (nxt n h i : Nat))] a) No 9 No := by
  refine T3.loop (c := (sel [1, 0, 4, 4] placedR)) (fun f a w => ∃ c : Int, RingI n h i f c ∧ (w = w0 ∧ Fr 15 [(0, .int .i64 n), (1, .int .i64 (c)), (2, vh)] a)) (fun a w q => ⟨n, (i : Nat), RingI.start hh hlt hi, q⟩) (fun f => T3.ex fun c => T3.pure fun hr => ?_)
  refine T3.seq (s := (sel [1, 0, 4, 4, 0] placedR)) (c := (sel [1, 0, 4, 4, 1] placedR)) (S := fun a w => (h.contains c.toNat = true) ∧ (w = w0 ∧ Fr 15 [(0, .int .i64 n), (1, .int .i64 (c)), (2, vh)] a)) ?_ (T3.pure fun hc => T3.block (id' := 1) (c := (sel [1, 0, 4, 4, 1, 4] placedR)) (by decide) ?_)
  · refine T3.test (s := (sel [1, 0, 4, 4, 0, 0] placedR)) (x := .skip) (y := .exit 0) (C := fun q => q = h.contains c.toNat) (W := fun w => w = w0) (by decide) ((plA w0 vh n h i b0 ht hn f c hr).noX) (T3.skip ?_) (T3.exit ?_)
    · rintro a w ⟨hF, hq, hw⟩
      exact ⟨hq.symm, hw, hF.tail⟩
    · rintro a w ⟨hq, hw, hF⟩
      have e := hr.stop hq.symm
      exact ⟨hw, by rw [← e]; exact hF.sub (by simp)⟩
  · obtain ⟨f', hf', hr'⟩ := hr.go hc
    exact ((plB w0 vh n h i b0 ht hn f c hr).noX).post (fun a w q => ⟨f', hf', _, hr', q⟩)

set_option maxRecDepth 100000 in
set_option maxHeartbeats 1000000 in
theorem plS (w0 : World) (vh : Value) (n : Nat) (h : List Nat) (i : Nat) (b0 : Nat) (ht : Row w0 b0 1 vh h.length ((natsL h).map (.int .i64))) (hn : n ≤ 1000) : T3 Try.prog (fun a w => (w = w0) ∧ Fr 15 [(0, .int .i64 n), (1, .int .i64 ((i : Nat))), (2, vh)] a) (sel [0] placedR) (fun a w => (w = w0) ∧ Fr 15 [(0, .int .i64 n), (1, .int .i64 ((i : Nat))), (2, vh)] a) No 9 No := by
  refine T3.leaf ?_
  rintro Q JS JX JT K hS hK hX hE hT hR a w ⟨hw, ⟨fr, rfl, q0, q1, q2, _⟩⟩
  subst hw
  rw [fr_placedR, show fr 0 = _ from q0, show fr 1 = _ from q1, show fr 2 = _ from q2]
  clear q0 q1 q2
  conv => arg 2; whnf
  go_wp2_with fail
  refine Met.intro (hS _ _ ?_)
  exact ⟨rfl, Fr.of _ rfl ⟨rfl, rfl, rfl, trivial⟩⟩

set_option maxRecDepth 100000 in
set_option maxHeartbeats 1000000 in
theorem plR (w0 : World) (vh : Value) (n : Nat) (h : List Nat) (i : Nat) (b0 : Nat) (ht : Row w0 b0 1 vh h.length ((natsL h).map (.int .i64))) (hn : n ≤ 1000) : T3 Try.prog (fun a w => (w = w0) ∧ Fr 15 [(1, .int .i64 (nxt n h i : Nat))] a) (sel [1, 1, 0] placedR) (fun a w => (w = w0) ∧ Fr 15 [(6, .int .i64 (nxt n h i : Nat))] a) No 9 No := by
  refine T3.leaf ?_
  rintro Q JS JX JT K hS hK hX hE hT hR a w ⟨hw, ⟨fr, rfl, q1, _⟩⟩
  subst hw
  rw [fr_placedR, show fr 1 = _ from q1]
  clear q1
  conv => arg 2; whnf
  go_wp2_with fail
  refine Met.intro (hS _ _ ?_)
  exact ⟨rfl, Fr.of _ rfl ⟨rfl, trivial⟩⟩

set_option maxRecDepth 100000 in
set_option maxHeartbeats 1000000 in
theorem placed_ref (w0 : World) (vh : Value) (n : Nat) (h : List Nat) (i : Nat) (b0 : Nat) (ht : Row w0 b0 1 vh h.length ((natsL h).map (.int .i64))) (hn : n ≤ 1000) (hh : Have n h) (hlt : h.length < n) (hi : i < n) : Calls Try.prog 48 #[.int .i64 n, .int .i64 (i : Nat), vh] w0 fun e w => e = .returned (.int .i64 (nxt n h i : Nat)) ∧ w = w0 := by
  have hall : T3 Try.prog (fun a w => (w = w0) ∧ Fr 15 [(0, .int .i64 n), (1, .int .i64 ((i : Nat))), (2, vh)] a) placedR No No 9 (fun a w => (w = w0) ∧ Fr 15 [(6, .int .i64 (nxt n h i : Nat))] a) := by
    refine T3.seq (s := (sel [0] placedR)) (c := (sel [1] placedR)) (T3.noT (plS w0 vh n h i b0 ht hn)) ?_
    refine T3.seq (s := (sel [1, 0] placedR)) (c := (sel [1, 1] placedR)) (T3.noT (plL w0 vh n h i b0 ht hn hh hlt hi)) ?_
    refine T3.seq (s := (sel [1, 1, 0] placedR)) (c := (sel [1, 1, 1] placedR)) (T3.noT (plR w0 vh n h i b0 ht hn)) ?_
    exact T3.ret (fun a w q => q)
  go_enter Try.func48, Try.ntmps48
  refine T3.done (s := placedR) hall ⟨rfl, Fr.of _ rfl ⟨rfl, rfl, rfl, trivial⟩⟩ ?_
  rintro a w ⟨rfl, fr, rfl, q6, _⟩
  rw [fr_placedR, show fr 6 = _ from q6]
  go_ret
  exact ⟨rfl, rfl⟩

end Go.Proofs.Ytkdimgghljklmaa
