/-
  The law of XBwReg inside a round of a range over a function, for regions that neither call a function nor defer. No condition on a program.
-/
import Derived.Test.YtkcjklgbadekjaaBwReg
import Derived.OrdersIn
import Derived.TacticsIn
import Derived.OwnWalkIn
namespace Go.Bw
open Go.RowKit
section
variable {P : Program} {ops : Array Oper} {Q : Exit → Act → World → Prop} {md : Region.Mode} {F : Fence} {n : Nat}

def NoEnter : Result Next → Prop | .ok (.value _) _ => True | .ok .skip _ => True | .halt _ _ => True | _ => False
theorem ne_v {s : Sem Value} {w : World} : NoEnter ((do pure (Next.value (← s)) : Sem Next).run P w) := by
  rw [Sem.run_bind]
  cases s.run P w <;> simp [NoEnter]
theorem ne_u {s : Sem Unit} {w : World} : NoEnter ((do s; pure Next.skip : Sem Next).run P w) := by
  rw [Sem.run_bind]
  cases s.run P w <;> simp [NoEnter]

def plainB (o : Oper) : Bool := match o.op with
  | .move _ | .assign _ | .slice .. | .alloc _ | .build .. | .buildSlice .. | .load .. | .store .. | .indexAddr .. | .fieldAddr .. => true
  | .call { callee := .builtin .min, .. } | .call { callee := .builtin .max, .. } | .call { callee := .builtin .len, .. } => true
  | .binOp .. => true
  | _ => false

theorem plain_run (o : Oper) (ρ : Operand → Value) (w : World) (h : plainB o = true) : NoEnter ((execOp ρ o).run P w) ∧ o.about P w ρ = none ∧ ∀ c, o.op ≠ .defer c := by
  obtain ⟨dst, op, type, pos, after, guard⟩ := o
  cases op <;> first | (exfalso; simp [plainB] at h; done) | skip
  case call c =>
    obtain ⟨callee, args, argTypes⟩ := c
    cases callee <;> first | (exfalso; simp [plainB] at h; done) | skip
    rename_i b
    cases b <;> first | (exfalso; simp [plainB] at h; done) | skip
    all_goals
      refine ⟨?_, ?_, ?_⟩
      · simp only [execOp, resolve, Sem.run_bind, Sem.run_pure, Result.andThen_ok, invoke, builtin]
        generalize Sem.run P _ w = r
        cases r <;> trivial
      · first | rfl | trivial
      · intro c; nofun
  case move x => exact ⟨by simp [execOp, NoEnter], by first | trivial | rfl, by simp⟩
  case assign x => exact ⟨by simp [execOp, NoEnter], by first | trivial | rfl, by simp⟩
  all_goals exact ⟨by unfold execOp; (first | exact ne_v | exact ne_u), by first | trivial | rfl, by simp⟩

theorem wpOpIn_of_wpOp {i : Nat} {K : Act → World → Prop} {a : Act} {w : World} (hp : ∀ o, ops[i]? = some o → plainB o = true) (hQ : ¬ LetsOut Q) (h : wpOp P ops Q i K a w) : wpOpIn F n P ops Q i K a w := by
  unfold wpOp at h
  unfold wpOpIn
  cases ho : ops[i]? with
  | none => simpa [ho] using h
  | some o =>
    obtain ⟨h1, h2, h3⟩ := plain_run (P := P) o a.eval w (hp o ho)
    simp only [ho] at h ⊢
    split
    · rename_i hw
      simp only [hw, if_true] at h
      rcases h with h | ⟨_, h⟩
      · unfold Oper.wp at h
        unfold Oper.wpIn
        rw [Oper.semAt_eq _ _ _ h3]
        refine ⟨fun f hf => (by rw [h2] at hf; cases hf), ?_⟩
        generalize (execOp a.eval o).run P w = r at *
        cases r with
        | ok x w' => cases x <;> simp only [Oper.upon, Oper.uponIn] at h ⊢ <;> first | exact h | exact h1.elim
        | halt x w' => cases x <;> simp only [Oper.upon, Oper.uponIn] at h ⊢ <;> exact h
      · exact absurd h hQ
    · rename_i hw
      simp only [hw] at h
      exact ⟨fun f hf => (by rw [h2] at hf; cases hf), h⟩

theorem wpAnyIn_of (hp : ∀ (i : Nat) (o : Oper), ops[i]? = some o → plainB o = true) (hQ : ¬ LetsOut Q) : ∀ (fuel : Nat) (listed : Array Bool) (a : Act) (w : World), wpAny P md ops Q fuel listed a w → wpAnyIn F n P md ops Q fuel listed a w
  | 0, _, _, _, h => h
  | fuel + 1, _, _, _, h => ⟨h.1, fun i hi => wpOpIn_mono (fun a' w' h' => wpAnyIn_of hp hQ fuel _ a' w' h') (wpOpIn_of_wpOp (hp i) hQ (h.2 i hi))⟩

def noOut (Q : Exit → Act → World → Prop) : Exit → Act → World → Prop
  | .normal, a, w => Q .normal a w
  | _, _, _ => False

theorem wpIn_region_calm {id : Nat} {a : Act} {w : World} {l : List Oper} (cs ns : List Nat) (hm : P.follows .mixedOrders = true)
    (hB : (Region.noSelect l.toArray && calmB .any l.toArray (fun i => cs.contains i) ns cs (Array.replicate l.length false) && (cs ++ ns).all (fun k => decide (k < l.length)) && decide (cs.length + ns.length = l.length)) = true)
    (hpl : l.all plainB = true)
    (h : wpCalm P l.toArray w.drew (fun a' => wpList P l.toArray (noOut Q) (pickOps l ns) a' w.drew) (pickOps l cs) a) : (Code.region id l.toArray true).wpIn F n P Q a w := by
  refine wpIn_mono (Q := noOut Q) ?_ (fun e a w h => by cases e <;> first | exact h | exact h.elim)
  simp only [Bool.and_eq_true, decide_eq_true_eq, List.all_eq_true] at hB
  obtain ⟨⟨⟨hs, hc⟩, hlt⟩, hlen⟩ := hB
  refine wpIn_region_any hm (wpAnyIn_of (fun i o ho => ?_) (fun ⟨_, _, h⟩ => h) _ _ _ _ (wpAny_of_G (mask := fun i => cs.contains i) _ _ _ _ ?_))
  · have : o ∈ l := by
      have := Array.mem_of_getElem? ho
      simpa using this
    exact List.all_eq_true.1 hpl o this
  · have hd : Down .any l.toArray (Array.replicate l.length false) := fun j oj _ hl => by
      rw [getD_replicate_false] at hl; cases hl
    have := calm_G (Q := noOut Q) w.drew ns hs (fun c a d v w h => h.elim) (fun k hk => hlt k (by simp [hk])) cs (Array.replicate l.length false) a hd hc (fun k hk => hlt k (by simp [hk])) h
    rw [hlen] at this
    simpa using this
/-- append of news to a slice that the call owns, in a fence. -/
theorem app_lawIn {rest : List Oper} {o : Oper} {a : Act} {W : World} (hgd : o.guard = none) (s x : Operand) (t : TypeId)
    (ho : o.op = .call { callee := .builtin .append, args := #[s, x], argTypes := #[t, t] })
    {e : TypeId} {z : Value} {size bytes : Nat} (E : Elem P t e z size bytes) {base : Nat} {v : Value} {k : Nat} {xs : List Value} (hown : W.ownsRow base e size v k xs) (hs : a.eval s = v)
    {g m c : Nat} (news : List Value) (hx : a.eval x = .slice (some ⟨g, 0, none⟩) m c) (hl : news.length = m * size) (hnews : ∀ j u, news[j]? = some u → W.cell? ⟨g, j, none⟩ = some u) (h1 : ∀ u ∈ news, u.oneCell' = true)
    (hlim : k + m ≤ 1099511627776) (hbase : base ≤ W.heap.size)
    (h : ∀ v' w', w'.ownsRow base e size v' (k + m) (xs ++ news) → W.grownBy w' v.ownBlock → wpListIn F n P ops Q rest (a.put o.dst v') w') : wpListIn F n P ops Q (o :: rest) a W := by
  obtain ⟨i, hi, hz0, hz1, hz2⟩ := info_parts E.hi
  refine wpListIn_append_own W hgd s x t ho base e i z size bytes E.ht hi hz0 hz1 hz2 E.hz E.hs v k xs hs hown ⟨g, 0, none⟩ m c news hx hl (fun j u hj => ?_) h1 (by unfold maxLen; omega) ?_ hbase (fun v' w' h1 h2 _ => h v' w' h1 h2)
  · rw [Addr.add_lit]
    simpa using hnews j u hj
  · have := Nat.mul_le_mul hlim E.hb
    omega
end

theorem grown_of_drew {w w' : World} {row : Option Nat} (g : w.drew.grownBy w' row) : w.grownBy w' row := ⟨g.os, g.tape, g.output, g.size, g.block⟩
theorem grown_to_drew {w w' : World} {row : Option Nat} (g : w.grownBy w' row) : w.grownBy w'.drew row := ⟨g.os, g.tape, g.output, g.size, g.block⟩
end Go.Bw
