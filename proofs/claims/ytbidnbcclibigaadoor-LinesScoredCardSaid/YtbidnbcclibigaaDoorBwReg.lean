/-
  A region that draws its order: its calm operations (they read old cells or only compute) are taken first, in the order of the text; then the others, where only one order is left. No condition on a program.
-/
import Derived.Test.YtbidnbcclibigaaDoorBwLib
import Derived.OrdersHeld
import Derived.StillTail
namespace Go.Bw
open Go.RowKit

def allocs (w : World) (os : List Obj) : World := { w with heap := w.heap ++ os.toArray }
theorem allocs_nil (w : World) : allocs w [] = w := by simp [allocs]
theorem allocs_alloc (w : World) (os : List Obj) (o : Obj) : (allocs w os).alloc o = allocs w (os ++ [o]) := by
  simp [allocs, World.alloc, ← Array.append_assoc]
theorem cell?_allocs (w : World) (os : List Obj) (a : Addr) (h : (w.cell? a).isSome = true) : (allocs w os).cell? a = w.cell? a := by
  obtain ⟨v, hv⟩ := Option.isSome_iff_exists.1 h
  have hlt := World.block_lt_of_cell? w a hv
  refine World.cell?_of_block ?_
  simp [allocs, Array.getElem?_append, hlt]

section
variable {P : Program} {ops : Array Oper} {Q : Exit → Act → World → Prop} {md : Region.Mode}

/-- The worlds that are w with new blocks. -/
def Ext (w : World) (w' : World) : Prop := ∃ os, w' = allocs w os

theorem ext_alloc {w₁ : World} : ∀ w o, Ext w₁ w → Ext w₁ (w.alloc o) := fun w o ⟨os, e⟩ => ⟨os ++ [o], by rw [e]; exact allocs_alloc _ _ _⟩

/-- Operations that at most lay new blocks. -/
def laysB (o : Oper) : Bool := match o.op with | .alloc _ | .box .. | .buildSlice .. => true | _ => false

def Same {α : Type} (w : World) : Result α → Prop | .ok _ w' => w' = w | .halt _ _ => True
def OutExt {α : Type} (w : World) : Result α → Prop | .ok _ w' => ∃ o, w' = w.alloc o | .halt _ _ => True

theorem same_pure {α : Type} (x : α) (w : World) : Same w ((pure x : Sem α).run P w) := by simp [Same]
theorem same_bind {α β : Type} {x : Sem α} {f : α → Sem β} {w : World} (h : Same w (x.run P w)) (hf : ∀ a, Same w ((f a).run P w)) : Same w ((x >>= f).run P w) := by
  rw [Sem.run_bind]
  cases hx : x.run P w with
  | ok a w' => rw [hx] at h; obtain rfl := h; exact hf a
  | halt e w' => trivial
theorem out_bind {α β : Type} {x : Sem α} {f : α → Sem β} {w : World} (h : Same w (x.run P w)) (hf : ∀ a, OutExt w ((f a).run P w)) : OutExt w ((x >>= f).run P w) := by
  rw [Sem.run_bind]
  cases hx : x.run P w with
  | ok a w' => rw [hx] at h; obtain rfl := h; exact hf a
  | halt e w' => trivial
theorem out_bind' {α β : Type} {x : Sem α} {f : α → Sem β} {w : World} (h : OutExt w (x.run P w)) (hf : ∀ a w', Same w' ((f a).run P w')) : OutExt w ((x >>= f).run P w) := by
  rw [Sem.run_bind]
  cases hx : x.run P w with
  | ok a w' =>
    rw [hx] at h
    obtain ⟨o, rfl⟩ := h
    have := hf a (w.alloc o)
    show OutExt w ((f a).run P (w.alloc o))
    cases hy : (f a).run P (w.alloc o) with
    | ok b w'' => rw [hy] at this; obtain rfl := this; exact ⟨o, rfl⟩
    | halt e w' => trivial
  | halt e w' => trivial
theorem same_halt {α : Type} (e : Halt) (w w' : World) : Same (α := α) w (.halt e w') := trivial

theorem same_typeInfo (t : TypeId) (w : World) : Same w ((typeInfo t).run P w) := by
  unfold typeInfo
  cases h : P.info? t <;> simp [h, Same, stuck]
theorem same_underlying (t : TypeId) (w : World) : Same w ((underlying t).run P w) := by
  unfold underlying
  cases h : P.underlying t <;> simp [h, Same, stuck]
theorem same_zeroValue (t : TypeId) (w : World) : Same w ((zeroValue t).run P w) := by
  unfold zeroValue
  refine same_bind (same_typeInfo t w) fun i => ?_
  cases h : i.zero <;> simp [Same, unsupported]
theorem same_sizeOf (t : TypeId) (w : World) : Same w ((sizeOf t).run P w) := by
  unfold sizeOf
  exact same_bind (same_typeInfo t w) fun i => same_pure _ _
theorem out_newRow (e : TypeId) (cs : Array Value) (w : World) : OutExt w ((newRow e cs).run P w) := by
  unfold newRow newObj
  simp [OutExt]
  exact ⟨_, rfl⟩

def OutV (w : World) : Result Next → Prop | .ok (.value _) w' => ∃ o, w' = w.alloc o | .ok _ _ => False | .halt _ _ => True
theorem out_v {s : Sem Value} {w : World} (h : OutExt w (s.run P w)) : OutV w ((do pure (Next.value (← s)) : Sem Next).run P w) := by
  rw [Sem.run_bind]
  cases hx : s.run P w with
  | ok a w' => rw [hx] at h; exact h
  | halt e w' => trivial

theorem lays_out (o : Oper) (ρ : Operand → Value) (w : World) (h : laysB o = true) : OutV w ((execOp ρ o).run P w) := by
  obtain ⟨dst, op, type, pos, after, guard⟩ := o
  cases op <;> simp [laysB] at h
  · unfold execOp Instr.alloc newVar
    exact out_v (out_bind (same_zeroValue _ _) fun z => out_bind' (out_newRow _ _ _) fun _ _ => same_pure _ _)
  · unfold execOp Instr.box newVar
    exact out_v (out_bind' (out_newRow _ _ _) fun _ _ => same_pure _ _)
  · rename_i t len parts
    unfold execOp Instr.buildSlice
    refine out_v (out_bind (same_underlying _ _) fun d => ?_)
    split
    · rename_i elem
      refine out_bind (same_sizeOf _ _) fun sz => ?_
      simp only []
      split
      · simp [OutExt, unsupported]
      · refine out_bind (same_pure _ _) fun _ => ?_
        rename_i inst
        cases inst with
        | isFalse h0 =>
          refine out_bind (same_zeroValue _ _) fun _ => out_bind (same_pure _ _) fun _ => ?_
          split
          · exact out_bind' (out_newRow _ _ _) fun _ _ => same_pure _ _
          · simp [OutExt, stuck]
        | isTrue h0 =>
          refine out_bind (same_pure _ _) fun _ => ?_
          split
          · exact out_bind' (out_newRow _ _ _) fun _ _ => same_pure _ _
          · simp [OutExt, stuck]
    · simp [OutExt, stuck]

theorem wpOp_lays {j : Nat} {oj : Oper} (hj : ops[j]? = some oj) (hl : laysB oj = true) {K : Act → World → Prop} {a : Act} {w : World} (h : wpOp P ops Q j K a w) :
    wpOp P ops Q j (fun a' w' => K a' w' ∧ (w' = w ∨ ∃ o, w' = w.alloc o)) a w := by
  unfold wpOp at *
  simp only [hj] at *
  split
  · rename_i hw
    simp only [hw, if_true] at h
    refine h.imp (fun h => ?_) id
    have hx := lays_out (P := P) oj a.eval w hl
    unfold Oper.wp at *
    generalize (execOp a.eval oj).run P w = r at *
    cases r with
    | ok n w' =>
      cases n <;> simp only [Oper.upon] at h ⊢
      case value u => exact ⟨h, .inr hx⟩
      all_goals exact (hx : False).elim
    | halt x w' =>
      cases x <;> simp only [Oper.upon] at h ⊢
      case panic u => exact h
  · rename_i hw
    simp only [hw] at h
    exact ⟨h, by simp⟩

/-- Whatever order is picked from here on; the calm ones (mask) leave the world alone. -/
def wpAnyG (P : Program) (md : Region.Mode) (ops : Array Oper) (mask : Nat → Bool) (Q : Exit → Act → World → Prop) : Nat → Array Bool → Act → World → Prop
  | 0, listed, a, w => Region.ready md ops listed = [] ∧ Q .normal a w
  | fuel + 1, listed, a, w =>
    (Region.ready md ops listed = [] → Q .normal a w) ∧
    ∀ i ∈ Region.ready md ops listed, wpOp P ops Q i (fun a' w' => (mask i = true → w' = w) ∧ wpAnyG P md ops mask Q fuel (listed.setIfInBounds i true) a' w') a w

theorem wpAny_of_G {mask : Nat → Bool} : ∀ (fuel : Nat) (listed : Array Bool) (a : Act) (w : World), wpAnyG P md ops mask Q fuel listed a w → wpAny P md ops Q fuel listed a w
  | 0, _, _, _, h => h
  | fuel + 1, _, _, _, h => ⟨h.1, fun i hi => wpOp_mono (fun a' w' h' => wpAny_of_G fuel _ a' w' h'.2) (h.2 i hi)⟩

/-- Does j wait for i, perhaps through others? -/
def waitsT (md : Region.Mode) (ops : Array Oper) : Nat → Nat → Nat → Bool
  | 0, _, _ => false
  | f + 1, j, i => match ops[j]? with
    | some oj => oj.after.any fun e => Region.binds md e && (e.on == i || waitsT md ops f e.on i)
    | none => false

/-- What is listed has all that it waits for listed. -/
def Down (md : Region.Mode) (ops : Array Oper) (listed : Array Bool) : Prop :=
  ∀ j oj, ops[j]? = some oj → listed.getD j false = true → ∀ e ∈ oj.after, Region.binds md e = true → listed.getD e.on false = true

theorem waitsT_listed {listed : Array Bool} (hd : Down md ops listed) {i : Nat} : ∀ (f j : Nat) (oj : Oper), ops[j]? = some oj → (∀ e ∈ oj.after, Region.binds md e = true → listed.getD e.on false = true) →
    waitsT md ops f j i = true → listed.getD i false = true
  | 0, _, _, _, _, h => by simp [waitsT] at h
  | f + 1, j, oj, hj, ha, h => by
    simp only [waitsT, hj] at h
    obtain ⟨e, he, hb⟩ := Array.any_eq_true'.1 h
    simp only [Bool.and_eq_true, Bool.or_eq_true, beq_iff_eq] at hb
    have hl := ha e he hb.1
    rcases hb.2 with h1 | h1
    · rw [← h1]; exact hl
    · cases ho : ops[e.on]? with
      | none =>
        cases f with
        | zero => simp [waitsT] at h1
        | succ f => simp [waitsT, ho] at h1
      | some ok => exact waitsT_listed hd f e.on ok ho (hd e.on ok ho hl) h1

theorem Down.set {listed : Array Bool} (hd : Down md ops listed) {i : Nat} (hi : i ∈ Region.ready md ops listed) : Down md ops (listed.setIfInBounds i true) := by
  intro j oj hj hl e he hb
  obtain ⟨_, oi, hoi, hall⟩ := mem_ready.1 hi
  by_cases hij : i = j
  · subst hij
    rw [hoi] at hj
    obtain rfl := Option.some.inj hj
    exact getD_set_true (hall e he hb)
  · rw [getD_set_ne false hij] at hl
    exact getD_set_true (hd j oj hj hl e he hb)

theorem first_G {mask : Nat → Bool} {i : Nat} {oi : Oper} {v : Value} (C : World → Prop) (hal : ∀ w o, C w → C (w.alloc o)) (univ : Bool) (hun : univ = true → ∀ w, C w) (N : Nat) (hi : ops[i]? = some oi) (hm : mask i = true) (hsel : ∀ (j : Nat) (o : Oper) cs b, ops[j]? = some o → o.op ≠ .select cs b)
    (hQ : ∀ c a d v w, Q (.panic c) (Act.put a d v) w → Q (.panic c) a w) :
    ∀ (fuel : Nat) (listed : Array Bool) (a : Act) (w : World), C w → Down md ops listed →
      (∀ j oj, ops[j]? = some oj → j ≠ i → listed.getD j true = false → waitsT md ops N j i = false → oi.apart ops oj = true ∧ (mask j = true ∨ laysB oj = true ∨ univ = true)) →
      i ∈ Region.ready md ops listed → YieldsIf P ops C oi v a →
      wpAnyG P md ops mask Q fuel (listed.setIfInBounds i true) (a.put oi.dst v) w → wpAnyG P md ops mask Q (fuel + 1) listed a w := by
  intro fuel
  induction fuel with
  | zero =>
    intro listed a w hE hd _ hr hy H
    refine ⟨fun h => (by rw [h] at hr; cases hr), fun j hj => ?_⟩
    by_cases hji : j = i
    · subst hji; exact hy.wpOp hi hE ⟨fun _ => rfl, H⟩
    · have := ready_mono hj hji
      rw [H.1] at this
      cases this
  | succ fuel ih =>
    intro listed a w hE hd hfree hr hy H
    refine ⟨fun h => (by rw [h] at hr; cases hr), fun j hj => ?_⟩
    by_cases hji : j = i
    · subst hji; exact hy.wpOp hi hE ⟨fun _ => rfl, H⟩
    · have h1 := H.2 j (ready_mono hj hji)
      obtain ⟨hjun, oj, hoj, hall⟩ := mem_ready.1 hj
      have hiun := (mem_ready.1 hr).1
      have hnot : waitsT md ops N j i = false := by
        cases hw : waitsT md ops N j i with
        | false => rfl
        | true =>
          have hl := waitsT_listed hd N j oj hoj hall hw
          rcases Nat.lt_or_ge i listed.size with h' | h'
          · simp [h'] at hl hiun; rw [hiun] at hl; cases hl
          · simp [Array.getElem?_eq_none h'] at hl
      obtain ⟨hap, hkind⟩ := hfree j oj hoj hji hjun hnot
      have h2 := wpOp_putIf hoj hap (fun cs b => hsel i oi cs b hi) (fun cs b => hsel j oj cs b hoj) (fun c a w => hQ c a _ _ w) hy h1
      have hfree' : ∀ k ok, ops[k]? = some ok → k ≠ i → (listed.setIfInBounds j true).getD k true = false →
          waitsT md ops N k i = false → oi.apart ops ok = true ∧ (mask k = true ∨ laysB ok = true ∨ univ = true) := fun k ok hk hki hun hno => by
        refine hfree k ok hk hki ?_ hno
        by_cases hjk : j = k
        · subst hjk; exact hjun
        · rw [getD_set_ne true hjk] at hun; exact hun
      have go : ∀ a' w', C w' → (YieldsIf P ops C oi v a' ∧ (mask j = true → w' = w) ∧ wpAnyG P md ops mask Q fuel ((listed.setIfInBounds i true).setIfInBounds j true) (a'.put oi.dst v) w') →
          (mask j = true → w' = w) ∧ wpAnyG P md ops mask Q (fuel + 1) (listed.setIfInBounds j true) a' w' := by
        intro a' w' hw h3
        refine ⟨h3.2.1, ih (listed.setIfInBounds j true) a' w' hw (hd.set hj) hfree' (ready_mono hr (Ne.symm hji)) h3.1 ?_⟩
        rw [Array.setIfInBounds_comm _ _ hji]
        exact h3.2.2
      rcases hkind with hk | hk | hk
      · exact wpOp_mono (fun a' w' h3 => go a' w' (by rw [h3.2.1 hk]; exact hE) h3) h2
      · refine wpOp_mono (fun a' w' h3 => go a' w' ?_ h3.1) (wpOp_lays hoj hk h2)
        rcases h3.2 with rfl | ⟨o, rfl⟩
        · exact hE
        · exact hal _ _ hE
      · exact wpOp_mono (fun a' w' h3 => go a' w' (hun hk w') h3) h2

/-- A calm operation: the same value in every world that is w₁ with new blocks, and nothing else. -/
def Oper.calm (P : Program) (o : Oper) (a : Act) (w₁ : World) (next : Act → Prop) : Prop :=
  ∃ v, (∀ os, (execOp a.eval o).run P (allocs w₁ os) = .ok (.value v) (allocs w₁ os)) ∧ next (a.put o.dst v)

attribute [go_sem] Oper.calm

/-- The calm operations, in the order of the text. -/
def wpCalm (P : Program) (ops : Array Oper) (w₁ : World) (Qa : Act → Prop) : List Oper → Act → Prop
  | [], a => Qa a
  | o :: rest, a => if Region.wanted o (yielded ops a.tmps) then Oper.calm P o a w₁ (wpCalm P ops w₁ Qa rest) else wpCalm P ops w₁ Qa rest (a.put o.dst undef)

theorem wpCalm_nil {w₁ : World} {Qa : Act → Prop} {a : Act} (h : Qa a) : wpCalm P ops w₁ Qa [] a := h
theorem wpCalm_step {w₁ : World} {Qa : Act → Prop} {a : Act} {o : Oper} {rest : List Oper}
    (h : ∀ K : Act → Prop, (∀ a, wpCalm P ops w₁ Qa rest a → K a) → if Region.wanted o (yielded ops a.tmps) then Oper.calm P o a w₁ K else K (a.put o.dst undef)) : wpCalm P ops w₁ Qa (o :: rest) a :=
  h _ (fun _ h => h)

def freeG (md : Region.Mode) (ops : Array Oper) (mask : Nat → Bool) (listed : Array Bool) (i : Nat) : Bool :=
  match ops[i]? with
  | none => false
  | some oi => mask i && (Region.ready md ops listed).contains i && (List.range ops.size).all fun j => j == i || listed.getD j true || waitsT md ops ops.size j i || match ops[j]? with
      | some oj => oi.apart ops oj && (mask j || laysB oj)
      | none => true

/-- After the calm ones (cs, in this order) only one order of the others (ns) is left. -/
def calmB (md : Region.Mode) (ops : Array Oper) (mask : Nat → Bool) (ns : List Nat) : List Nat → Array Bool → Bool
  | [], listed => seqI md ops mask ns listed
  | i :: cs, listed => freeG md ops mask listed i && calmB md ops mask ns cs (listed.setIfInBounds i true)
where
  seqI (md : Region.Mode) (ops : Array Oper) (mask : Nat → Bool) : List Nat → Array Bool → Bool
  | [], listed => (Region.ready md ops listed).isEmpty
  | k :: ns, listed => decide (Region.ready md ops listed = [k]) && !mask k && seqI md ops mask ns (listed.setIfInBounds k true)

def pickOps (l : List Oper) (is : List Nat) : List Oper := is.filterMap fun i => l[i]?

theorem seq_G {l : List Oper} {mask : Nat → Bool} : ∀ (ns : List Nat) (listed : Array Bool) (a : Act) (w : World), calmB.seqI md l.toArray mask ns listed = true → (∀ k ∈ ns, k < l.length) →
    wpList P l.toArray Q (pickOps l ns) a w → wpAnyG P md l.toArray mask Q ns.length listed a w
  | [], listed, a, w, hB, _, h => ⟨by simpa [calmB.seqI] using hB, h⟩
  | k :: ns, listed, a, w, hB, hl, h => by
    simp only [calmB.seqI, Bool.and_eq_true, decide_eq_true_eq, Bool.not_eq_true'] at hB
    obtain ⟨⟨hr, hmk⟩, hB'⟩ := hB
    have hk : k < l.length := hl k (by simp)
    have hp : pickOps l (k :: ns) = l[k] :: pickOps l ns := by simp [pickOps, List.getElem?_eq_getElem hk]
    rw [hp] at h
    refine ⟨fun h1 => (by rw [hr] at h1; cases h1), fun i hi => ?_⟩
    rw [hr] at hi
    obtain rfl : i = k := by simpa using hi
    have hw : wpOp P l.toArray Q i (wpList P l.toArray Q (pickOps l ns)) a w := by unfold wpOp; simp only [List.getElem?_toArray, List.getElem?_eq_getElem hk]; exact h
    exact wpOp_mono (fun a' w' h' => ⟨fun e => (by rw [hmk] at e; cases e), seq_G ns _ a' w' hB' (fun k hk => hl k (by simp [hk])) h'⟩) hw

theorem calm_G {l : List Oper} {mask : Nat → Bool} (w₁ : World) (ns : List Nat) (hs : Region.noSelect l.toArray = true) (hQ : ∀ c a d v w, Q (.panic c) (Act.put a d v) w → Q (.panic c) a w) (hn : ∀ k ∈ ns, k < l.length) :
    ∀ (cs : List Nat) (listed : Array Bool) (a : Act), Down md l.toArray listed → calmB md l.toArray mask ns cs listed = true → (∀ k ∈ cs, k < l.length) →
    wpCalm P l.toArray w₁ (fun a' => wpList P l.toArray Q (pickOps l ns) a' w₁) (pickOps l cs) a → wpAnyG P md l.toArray mask Q (cs.length + ns.length) listed a w₁
  | [], listed, a, _, hB, _, h => by
    rw [List.length_nil, Nat.zero_add]
    exact seq_G ns listed a w₁ hB hn h
  | i :: cs, listed, a, hd, hB, hl, h => by
    simp only [calmB, Bool.and_eq_true] at hB
    obtain ⟨hf, hB'⟩ := hB
    have hi : i < l.length := hl i (by simp)
    have h0 : l.toArray[i]? = some l[i] := by simp [hi]
    have hp : pickOps l (i :: cs) = l[i] :: pickOps l cs := by simp [pickOps, List.getElem?_eq_getElem hi]
    rw [hp] at h
    simp only [freeG, h0, Bool.and_eq_true, List.all_eq_true, List.mem_range] at hf
    obtain ⟨⟨hmk, hr⟩, hall⟩ := hf
    have hr' : i ∈ Region.ready md l.toArray listed := by simpa using hr
    obtain ⟨v, hy, hrest⟩ : ∃ v, YieldsIf P l.toArray (Ext w₁) l[i] v a ∧ wpCalm P l.toArray w₁ (fun a' => wpList P l.toArray Q (pickOps l ns) a' w₁) (pickOps l cs) (a.put (l[i]).dst v) := by
      unfold wpCalm at h
      split at h
      · rename_i hw
        obtain ⟨v, hv, hk⟩ := h
        exact ⟨v, .inl ⟨hw, fun w' ⟨os, e⟩ => by subst e; exact hv os⟩, hk⟩
      · rename_i hw
        exact ⟨undef, .inr ⟨by simpa using hw, rfl⟩, h⟩
    have : (i :: cs).length + ns.length = (cs.length + ns.length) + 1 := by simp; omega
    rw [this]
    refine first_G (Ext w₁) ext_alloc false (by simp) l.toArray.size h0 hmk (Region.noSelect_spec hs) hQ _ listed a w₁ ⟨[], (allocs_nil _).symm⟩ hd (fun j oj hj hne hun hw => ?_) hr' hy
      (calm_G w₁ ns hs hQ hn cs _ _ (hd.set hr') hB' (fun k hk => hl k (by simp [hk])) hrest)
    have h1 := hall j (Array.getElem?_eq_some_iff.1 hj).1
    simp only [hj, Bool.or_eq_true, beq_iff_eq, hne, false_or, hun, hw, Bool.false_eq_true, Bool.and_eq_true] at h1
    exact ⟨h1.1, h1.2.imp id .inl⟩

/-- A pure operation: the same value in every world. -/
def Oper.pureAt (P : Program) (o : Oper) (a : Act) (next : Act → Prop) : Prop :=
  ∃ v, (∀ w, (execOp a.eval o).run P w = .ok (.value v) w) ∧ next (a.put o.dst v)
attribute [go_sem] Oper.pureAt

def wpPure (P : Program) (ops : Array Oper) (Qa : Act → Prop) : List Oper → Act → Prop
  | [], a => Qa a
  | o :: rest, a => if Region.wanted o (yielded ops a.tmps) then Oper.pureAt P o a (wpPure P ops Qa rest) else wpPure P ops Qa rest (a.put o.dst undef)
theorem wpPure_nil {Qa : Act → Prop} {a : Act} (h : Qa a) : wpPure P ops Qa [] a := h
theorem wpPure_step {Qa : Act → Prop} {a : Act} {o : Oper} {rest : List Oper}
    (h : ∀ K : Act → Prop, (∀ a, wpPure P ops Qa rest a → K a) → if Region.wanted o (yielded ops a.tmps) then Oper.pureAt P o a K else K (a.put o.dst undef)) : wpPure P ops Qa (o :: rest) a :=
  h _ (fun _ h => h)

def freeP (md : Region.Mode) (ops : Array Oper) (mask : Nat → Bool) (listed : Array Bool) (i : Nat) : Bool :=
  match ops[i]? with
  | none => false
  | some oi => mask i && (Region.ready md ops listed).contains i && (List.range ops.size).all fun j => j == i || listed.getD j true || waitsT md ops ops.size j i || match ops[j]? with
      | some oj => oi.apart ops oj
      | none => true

def pureB (md : Region.Mode) (ops : Array Oper) (mask : Nat → Bool) (cs ns : List Nat) : List Nat → Array Bool → Bool
  | [], listed => calmB md ops mask ns cs listed
  | i :: ps, listed => freeP md ops mask listed i && pureB md ops mask cs ns ps (listed.setIfInBounds i true)

theorem pure_G {l : List Oper} {mask : Nat → Bool} (w₁ : World) (cs ns : List Nat) (hs : Region.noSelect l.toArray = true) (hQ : ∀ c a d v w, Q (.panic c) (Act.put a d v) w → Q (.panic c) a w) (hn : ∀ k ∈ ns, k < l.length) (hc : ∀ k ∈ cs, k < l.length) :
    ∀ (ps : List Nat) (listed : Array Bool) (a : Act), Down md l.toArray listed → pureB md l.toArray mask cs ns ps listed = true → (∀ k ∈ ps, k < l.length) →
    wpPure P l.toArray (wpCalm P l.toArray w₁ (fun a' => wpList P l.toArray Q (pickOps l ns) a' w₁) (pickOps l cs)) (pickOps l ps) a → wpAnyG P md l.toArray mask Q (ps.length + (cs.length + ns.length)) listed a w₁
  | [], listed, a, hd, hB, _, h => by
    rw [List.length_nil, Nat.zero_add]
    exact calm_G w₁ ns hs hQ hn cs listed a hd hB hc h
  | i :: ps, listed, a, hd, hB, hl, h => by
    simp only [pureB, Bool.and_eq_true] at hB
    obtain ⟨hf, hB'⟩ := hB
    have hi : i < l.length := hl i (by simp)
    have h0 : l.toArray[i]? = some l[i] := by simp [hi]
    have hp : pickOps l (i :: ps) = l[i] :: pickOps l ps := by simp [pickOps, List.getElem?_eq_getElem hi]
    rw [hp] at h
    simp only [freeP, h0, Bool.and_eq_true, List.all_eq_true, List.mem_range] at hf
    obtain ⟨⟨hmk, hr⟩, hall⟩ := hf
    have hr' : i ∈ Region.ready md l.toArray listed := by simpa using hr
    obtain ⟨v, hy, hrest⟩ : ∃ v, YieldsIf P l.toArray (fun _ => True) l[i] v a ∧ wpPure P l.toArray (wpCalm P l.toArray w₁ (fun a' => wpList P l.toArray Q (pickOps l ns) a' w₁) (pickOps l cs)) (pickOps l ps) (a.put (l[i]).dst v) := by
      unfold wpPure at h
      split at h
      · rename_i hw
        obtain ⟨v, hv, hk⟩ := h
        exact ⟨v, .inl ⟨hw, fun w' _ => hv w'⟩, hk⟩
      · rename_i hw
        exact ⟨undef, .inr ⟨by simpa using hw, rfl⟩, h⟩
    have : (i :: ps).length + (cs.length + ns.length) = (ps.length + (cs.length + ns.length)) + 1 := by simp; omega
    rw [this]
    refine first_G (fun _ => True) (fun _ _ _ => trivial) true (fun _ _ => trivial) l.toArray.size h0 hmk (Region.noSelect_spec hs) hQ _ listed a w₁ trivial hd (fun j oj hj hne hun hw => ?_) hr' hy
      (pure_G w₁ cs ns hs hQ hn hc ps _ _ (hd.set hr') hB' (fun k hk => hl k (by simp [hk])) hrest)
    have h1 := hall j (Array.getElem?_eq_some_iff.1 hj).1
    simp only [hj, Bool.or_eq_true, beq_iff_eq, hne, false_or, hun, hw, Bool.false_eq_true] at h1
    exact ⟨h1, .inr (.inr rfl)⟩

/-- A region that draws its order: first its pure operations ps, then its calm ones cs, then the others ns. -/
theorem wp_region_pure {id : Nat} {a : Act} {w : World} {l : List Oper} (ps cs ns : List Nat) (hm : P.follows .mixedOrders = true)
    (hB : (Region.noSelect l.toArray && pureB .any l.toArray (fun i => ps.contains i || cs.contains i) cs ns ps (Array.replicate l.length false) && (ps ++ (cs ++ ns)).all (fun k => decide (k < l.length)) && decide (ps.length + (cs.length + ns.length) = l.length)) = true)
    (hQ : ∀ c a d v w, Q (.panic c) (Act.put a d v) w → Q (.panic c) a w)
    (h : wpPure P l.toArray (wpCalm P l.toArray w.drew (fun a' => wpList P l.toArray Q (pickOps l ns) a' w.drew) (pickOps l cs)) (pickOps l ps) a) : (Code.region id l.toArray true).wp P Q a w := by
  simp only [Bool.and_eq_true, decide_eq_true_eq, List.all_eq_true] at hB
  obtain ⟨⟨⟨hs, hc⟩, hlt⟩, hlen⟩ := hB
  refine wp_region_any hm (wpAny_of_G (mask := fun i => ps.contains i || cs.contains i) _ _ _ _ ?_)
  have hd : Down .any l.toArray (Array.replicate l.length false) := fun j oj _ hl => by
    rw [getD_replicate_false] at hl; cases hl
  have := pure_G w.drew cs ns hs hQ (fun k hk => hlt k (by simp [hk])) (fun k hk => hlt k (by simp [hk])) ps (Array.replicate l.length false) a hd hc (fun k hk => hlt k (by simp [hk])) h
  rw [hlen] at this
  simpa using this

theorem wpList_guardless (ops' : Array Oper) : ∀ (l : List Oper), l.all (fun o => o.guard.isNone) = true → wpList P ops Q l = wpList P ops' Q l
  | [], _ => rfl
  | o :: rest, h => by
    simp only [List.all_cons, Bool.and_eq_true, Option.isNone_iff_eq_none] at h
    funext a w
    unfold wpList
    rw [wpList_guardless ops' rest h.2]
    simp only [Region.wanted, h.1, if_true]

/-- A region that draws its order: first its calm operations cs, then the others ns. -/
theorem wp_region_calm0 {id : Nat} {a : Act} {w : World} {l : List Oper} (cs ns : List Nat) (hm : P.follows .mixedOrders = true)
    (hB : (Region.noSelect l.toArray && calmB .any l.toArray (fun i => cs.contains i) ns cs (Array.replicate l.length false) && (cs ++ ns).all (fun k => decide (k < l.length)) && decide (cs.length + ns.length = l.length)) = true)
    (hQ : ∀ c a d v w, Q (.panic c) (Act.put a d v) w → Q (.panic c) a w)
    (h : wpCalm P l.toArray w.drew (fun a' => wpList P l.toArray Q (pickOps l ns) a' w.drew) (pickOps l cs) a) : (Code.region id l.toArray true).wp P Q a w := by
  simp only [Bool.and_eq_true, decide_eq_true_eq, List.all_eq_true] at hB
  obtain ⟨⟨⟨hs, hc⟩, hlt⟩, hlen⟩ := hB
  refine wp_region_any hm (wpAny_of_G (mask := fun i => cs.contains i) _ _ _ _ ?_)
  have hd : Down .any l.toArray (Array.replicate l.length false) := fun j oj _ hl => by
    rw [getD_replicate_false] at hl; cases hl
  have := calm_G w.drew ns hs hQ (fun k hk => hlt k (by simp [hk])) cs (Array.replicate l.length false) a hd hc (fun k hk => hlt k (by simp [hk])) h
  rw [hlen] at this
  simpa using this

/-- A region that draws its order: first its calm operations cs, then the others ns, which bear no guard. -/
theorem wp_region_calm {id : Nat} {a : Act} {w : World} {l : List Oper} (cs ns : List Nat) (hm : P.follows .mixedOrders = true)
    (hB : (Region.noSelect l.toArray && calmB .any l.toArray (fun i => cs.contains i) ns cs (Array.replicate l.length false) && (cs ++ ns).all (fun k => decide (k < l.length)) && decide (cs.length + ns.length = l.length) && (pickOps l ns).all (fun o => o.guard.isNone)) = true)
    (hQ : ∀ c a d v w, Q (.panic c) (Act.put a d v) w → Q (.panic c) a w)
    (h : wpCalm P l.toArray w.drew (fun a' => wpList P (pickOps l ns).toArray Q (pickOps l ns) a' w.drew) (pickOps l cs) a) : (Code.region id l.toArray true).wp P Q a w := by
  rw [Bool.and_eq_true] at hB
  exact wp_region_calm0 cs ns hm hB.1 hQ (by rw [wpList_guardless (pickOps l ns).toArray _ hB.2]; exact h)

/-- The same, where the others bear no guard: they stand as a list of their own. -/
theorem wp_region_pure' {id : Nat} {a : Act} {w : World} {l : List Oper} (ps cs ns : List Nat) (hm : P.follows .mixedOrders = true)
    (hB : (Region.noSelect l.toArray && pureB .any l.toArray (fun i => ps.contains i || cs.contains i) cs ns ps (Array.replicate l.length false) && (ps ++ (cs ++ ns)).all (fun k => decide (k < l.length)) && decide (ps.length + (cs.length + ns.length) = l.length)) = true)
    (hg : (pickOps l ns).all (fun o => o.guard.isNone) = true)
    (hQ : ∀ c a d v w, Q (.panic c) (Act.put a d v) w → Q (.panic c) a w)
    (h : wpPure P l.toArray (wpCalm P l.toArray w.drew (fun a' => wpList P (pickOps l ns).toArray Q (pickOps l ns) a' w.drew) (pickOps l cs)) (pickOps l ps) a) : (Code.region id l.toArray true).wp P Q a w :=
  wp_region_pure ps cs ns hm hB hQ (by rw [wpList_guardless (pickOps l ns).toArray _ hg]; exact h)

end
end Go.Bw
