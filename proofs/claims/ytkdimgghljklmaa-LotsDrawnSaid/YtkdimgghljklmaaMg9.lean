/-
  Contracts and lemmas towards the statement, of several parts; each part says ahead of it what it holds and under which conditions.
-/
import Derived.Test.YtkdimgghljklmaaMg8
import Derived.Test.YtkdimgghljklmaaMg2
import Derived.Deep.RegionHeld3
import Derived.StillTactics
import Derived.Laws.Pointers
import Derived.OrdersIn
import Derived.TacticsIn
import Derived.OwnWalkIn
import Derived.RangeFuncBox
import Derived.RangeFuncLeaves
import Derived.Shelf.Abstract
import Derived.TacticsInMore
import Derived.LoopNIn
import Derived.LoopIn
import Derived.Maps.AppendAt
import Derived.Laws.StructEq
import Derived.Test.YtkdimgghljklmaaMg4
import Derived.Test.YtkdimgghljklmaaMg5
import Derived.Lib.MinMax
/-
  The games of the first round: the reference's. Condition: at most 20 seeds.
-/
set_option linter.unusedVariables false
namespace Go.Proofs.Ytkdimgghljklmaa
open Go.RowKit Go.Bw

theorem el_pair2 : Elem Try.prog 80 84 (.agg #[.int .i64 0, .int .i64 0]) 2 16 := ⟨by kernel_rfl, by kernel_rfl, by kernel_rfl, by decide, by decide⟩

def cells2 (l : List (Int × Int)) : List Value := l.flatMap fun p => [.int .i64 p.1, .int .i64 p.2]
theorem cells2_length (l : List (Int × Int)) : (cells2 l).length = l.length * 2 := by
  unfold cells2
  induction l with
  | nil => rfl
  | cons x l ih => simp [List.flatMap_cons, ih]; omega
theorem cells2_snoc (l : List (Int × Int)) (p : Int × Int) : cells2 (l ++ [p]) = cells2 l ++ [.int .i64 p.1, .int .i64 p.2] := by simp [cells2]

/-- The game of those at j and j + 1. -/
def gm (many : Int) (l : List Int) (j : Int) : Int × Int := (min (geti l j) (geti l (j + 1)), if many < max (geti l j) (geti l (j + 1)) then 0 else max (geti l j) (geti l (j + 1)))
def gms (many : Int) (l : List Int) (k : Int) : List (Int × Int) := (List.range k.toNat).map fun (j : Nat) => gm many l (2 * (j : Int))
theorem gms_succ (many : Int) (l : List Int) (k : Int) (h : 0 ≤ k) : gms many l (k + 1) = gms many l k ++ [gm many l (2 * k)] := by
  unfold gms
  rw [show (k + 1).toNat = k.toNat + 1 by omega, List.range_succ, List.map_append]
  simp [show ((k.toNat : Nat) : Int) = k by omega]
theorem gms_length (many : Int) (l : List Int) (k : Int) : (gms many l k).length = k.toNat := by simp [gms]

end Go.Proofs.Ytkdimgghljklmaa
/-
  The law of XBwReg inside a round of a range over a function, for regions that neither call a function nor defer. No condition on a program.
-/
set_option linter.unusedVariables false
namespace Go.Bw
open Go.RowKit
section
variable {P : Program} {ops : Array Oper} {Q : Exit → Act → World → Prop} {md : Region.Mode} {F : Fence} {n : Nat}

def NoEnter : Result Next → Prop | .ok (.value _) _ => True | .ok .skip _ => True | .halt _ _ => True | _ => False
theorem ne_v {s : Sem Value} {w : World} : NoEnter ((do pure (Next.value (← s)) : Sem Next).run P w) := by
  rw [Sem.run_bind]
  cases s.run P w <;> simp [NoEnter]
theorem ne_u {s : Sem Unit} {w : World} : NoEnter ((do s; pure Next.skip : Sem Next).run P w) := by
  rw [Sem.run_bind]
  cases s.run P w <;> simp [NoEnter]

def plainB (o : Oper) : Bool := match o.op with
  | .move _ | .assign _ | .slice .. | .alloc _ | .build .. | .buildSlice .. | .load .. | .store .. | .indexAddr .. | .fieldAddr .. => true
  | .call { callee := .builtin .min, .. } | .call { callee := .builtin .max, .. } | .call { callee := .builtin .len, .. } => true
  | .binOp .. => true
  | _ => false

theorem plain_run (o : Oper) (ρ : Operand → Value) (w : World) (h : plainB o = true) : NoEnter ((execOp ρ o).run P w) ∧ o.about P w ρ = none ∧ ∀ c, o.op ≠ .defer c := by
  obtain ⟨dst, op, type, pos, after, guard⟩ := o
  cases op <;> first | (exfalso; simp [plainB] at h; done) | skip
  case call c =>
    obtain ⟨callee, args, argTypes⟩ := c
    cases callee <;> first | (exfalso; simp [plainB] at h; done) | skip
    rename_i b
    cases b <;> first | (exfalso; simp [plainB] at h; done) | skip
    all_goals
      refine ⟨?_, ?_, ?_⟩
      · simp only [execOp, resolve, Sem.run_bind, Sem.run_pure, Result.andThen_ok, invoke, builtin]
        generalize Sem.run P _ w = r
        cases r <;> trivial
      · first | rfl | trivial
      · intro c; nofun
  case move x => exact ⟨by simp [execOp, NoEnter], by first | trivial | rfl, by simp⟩
  case assign x => exact ⟨by simp [execOp, NoEnter], by first | trivial | rfl, by simp⟩
  all_goals exact ⟨by unfold execOp; (first | exact ne_v | exact ne_u), by first | trivial | rfl, by simp⟩

theorem wpOpIn_of_wpOp {i : Nat} {K : Act → World → Prop} {a : Act} {w : World} (hp : ∀ o, ops[i]? = some o → plainB o = true) (hQ : ¬ LetsOut Q) (h : wpOp P ops Q i K a w) : wpOpIn F n P ops Q i K a w := by
  unfold wpOp at h
  unfold wpOpIn
  cases ho : ops[i]? with
  | none => simpa [ho] using h
  | some o =>
    obtain ⟨h1, h2, h3⟩ := plain_run (P := P) o a.eval w (hp o ho)
    simp only [ho] at h ⊢
    split
    · rename_i hw
      simp only [hw, if_true] at h
      rcases h with h | ⟨_, h⟩
      · unfold Oper.wp at h
        unfold Oper.wpIn
        rw [Oper.semAt_eq _ _ _ h3]
        refine ⟨fun f hf => (by rw [h2] at hf; cases hf), ?_⟩
        generalize (execOp a.eval o).run P w = r at *
        cases r with
        | ok x w' => cases x <;> simp only [Oper.upon, Oper.uponIn] at h ⊢ <;> first | exact h | exact h1.elim
        | halt x w' => cases x <;> simp only [Oper.upon, Oper.uponIn] at h ⊢ <;> exact h
      · exact absurd h hQ
    · rename_i hw
      simp only [hw] at h
      exact ⟨fun f hf => (by rw [h2] at hf; cases hf), h⟩

theorem wpAnyIn_of (hp : ∀ (i : Nat) (o : Oper), ops[i]? = some o → plainB o = true) (hQ : ¬ LetsOut Q) : ∀ (fuel : Nat) (listed : Array Bool) (a : Act) (w : World), wpAny P md ops Q fuel listed a w → wpAnyIn F n P md ops Q fuel listed a w
  | 0, _, _, _, h => h
  | fuel + 1, _, _, _, h => ⟨h.1, fun i hi => wpOpIn_mono (fun a' w' h' => wpAnyIn_of hp hQ fuel _ a' w' h') (wpOpIn_of_wpOp (hp i) hQ (h.2 i hi))⟩

def noOut (Q : Exit → Act → World → Prop) : Exit → Act → World → Prop
  | .normal, a, w => Q .normal a w
  | _, _, _ => False

theorem wpIn_region_calm {id : Nat} {a : Act} {w : World} {l : List Oper} (cs ns : List Nat) (hm : P.follows .mixedOrders = true)
    (hB : (Region.noSelect l.toArray && calmB .any l.toArray (fun i => cs.contains i) ns cs (Array.replicate l.length false) && (cs ++ ns).all (fun k => decide (k < l.length)) && decide (cs.length + ns.length = l.length)) = true)
    (hpl : l.all plainB = true)
    (h : wpCalm P l.toArray w.drew (fun a' => wpList P l.toArray (noOut Q) (pickOps l ns) a' w.drew) (pickOps l cs) a) : (Code.region id l.toArray true).wpIn F n P Q a w := by
  refine wpIn_mono (Q := noOut Q) ?_ (fun e a w h => by cases e <;> first | exact h | exact h.elim)
  simp only [Bool.and_eq_true, decide_eq_true_eq, List.all_eq_true] at hB
  obtain ⟨⟨⟨hs, hc⟩, hlt⟩, hlen⟩ := hB
  refine wpIn_region_any hm (wpAnyIn_of (fun i o ho => ?_) (fun ⟨_, _, h⟩ => h) _ _ _ _ (wpAny_of_G (mask := fun i => cs.contains i) _ _ _ _ ?_))
  · have : o ∈ l := by
      have := Array.mem_of_getElem? ho
      simpa using this
    exact List.all_eq_true.1 hpl o this
  · have hd : Down .any l.toArray (Array.replicate l.length false) := fun j oj _ hl => by
      rw [getD_replicate_false] at hl; cases hl
    have := calm_G (Q := noOut Q) w.drew ns hs (fun c a d v w h => h.elim) (fun k hk => hlt k (by simp [hk])) cs (Array.replicate l.length false) a hd hc (fun k hk => hlt k (by simp [hk])) h
    rw [hlen] at this
    simpa using this
/-- append of news to a slice that the call owns, in a fence. -/
theorem app_lawIn {rest : List Oper} {o : Oper} {a : Act} {W : World} (hgd : o.guard = none) (s x : Operand) (t : TypeId)
    (ho : o.op = .call { callee := .builtin .append, args := #[s, x], argTypes := #[t, t] })
    {e : TypeId} {z : Value} {size bytes : Nat} (E : Elem P t e z size bytes) {base : Nat} {v : Value} {k : Nat} {xs : List Value} (hown : W.ownsRow base e size v k xs) (hs : a.eval s = v)
    {g m c : Nat} (news : List Value) (hx : a.eval x = .slice (some ⟨g, 0, none⟩) m c) (hl : news.length = m * size) (hnews : ∀ j u, news[j]? = some u → W.cell? ⟨g, j, none⟩ = some u) (h1 : ∀ u ∈ news, u.oneCell' = true)
    (hlim : k + m ≤ 1099511627776) (hbase : base ≤ W.heap.size)
    (h : ∀ v' w', w'.ownsRow base e size v' (k + m) (xs ++ news) → W.grownBy w' v.ownBlock → wpListIn F n P ops Q rest (a.put o.dst v') w') : wpListIn F n P ops Q (o :: rest) a W := by
  obtain ⟨i, hi, hz0, hz1, hz2⟩ := info_parts E.hi
  refine wpListIn_append_own W hgd s x t ho base e i z size bytes E.ht hi hz0 hz1 hz2 E.hz E.hs v k xs hs hown ⟨g, 0, none⟩ m c news hx hl (fun j u hj => ?_) h1 (by unfold maxLen; omega) ?_ hbase (fun v' w' h1 h2 _ => h v' w' h1 h2)
  · rw [Addr.add_lit]
    simpa using hnews j u hj
  · have := Nat.mul_le_mul hlim E.hb
    omega
end

theorem grown_of_drew {w w' : World} {row : Option Nat} (g : w.drew.grownBy w' row) : w.grownBy w' row := ⟨g.os, g.tape, g.output, g.size, g.block⟩
theorem grown_to_drew {w w' : World} {row : Option Nat} (g : w.grownBy w' row) : w.grownBy w'.drew row := ⟨g.os, g.tape, g.output, g.size, g.block⟩
end Go.Bw
/-
  The program's pairing of those who follow each other, by slices.Chunk. Conditions: an even number of at most 64 numbers, in a slice that is not nil.
-/
set_option linter.unusedVariables false
namespace Go.Proofs.Ytkdimgghljklmaa
open Go.RowKit Go.Bw Go.Shelf

attribute [local go_sem] Oper.semAt_some

/-- The offsets 0, 2, .. of k pairs. -/
def offs (k : Nat) : List Int := (List.range k).map fun (j : Nat) => 2 * (j : Int)
theorem offs_succ (k : Nat) : offs (k + 1) = offs k ++ [2 * (k : Int)] := by simp [offs, List.range_succ]
theorem offs_length (k : Nat) : (offs k).length = k := by simp [offs]

set_option maxRecDepth 100000 in
set_option maxHeartbeats 1000000 in
theorem chunk_in (F : Fence) (n : Nat) (h5 : F.fn 80) (hro : F.round = none) (a : Option Addr) (len cap : Nat) (w : World) :
    CallsIn F n Try.prog 80 #[.slice a len cap, .int .i64 2] w fun e w' => e = .returned (.func (.func 86) #[] #[.pointer (some ⟨w.heap.size, 0, none⟩), .pointer (some ⟨w.heap.size + 1, 0, none⟩)]) ∧
      w' = (w.alloc (.cells #[.slice a len cap] 22)).alloc (.cells #[.int .i64 2] 3) := by
  refine callsIn_of_wp Try.func80 rfl h5 ?_ hro
  simp only [Try.ntmps80, List.size_toArray, List.length_cons, List.length_nil, Nat.reduceAdd, Nat.reduceSub, Array.replicate_succ, Array.replicate_zero, List.push_toArray, List.append_toArray, List.nil_append, List.cons_append]
  gi_wp2
  go_ret
  exact ⟨rfl, rfl⟩

/-- An offset of a pair. -/
abbrev Off (N : Nat) := { o : Int // 0 ≤ o ∧ o + 2 ≤ 2 * (N : Int) }

/-- What a round keeps: old blocks, and the two boxes of slices.Chunk. -/
def KpC (n₀ Bs Bn : Nat) (W W' : World) : Prop := Below n₀ W W' ∧ W'.heap[Bs]? = W.heap[Bs]? ∧ W'.heap[Bn]? = W.heap[Bn]?
theorem KpC.trans {n₀ Bs Bn : Nat} {A B C : World} (h : KpC n₀ Bs Bn A B) (k : KpC n₀ Bs Bn B C) : KpC n₀ Bs Bn A C := ⟨h.1.trans k.1, k.2.1.trans h.2.1, k.2.2.trans h.2.2⟩

set_option maxRecDepth 100000 in
set_option maxHeartbeats 2000000 in
theorem chunk1_in (F : Fence) (n : Nat) (h7 : F.fn 86) (hro : F.round = none) (hn : 1 ≤ n) (l Bs Bn n₀ b off cap N : Nat) (hN : N ≤ 32) (hcap : 2 * N ≤ cap) (hcm : cap ≤ 9223372036854775807) (J Jx : List (Off N) → World → Prop) (hJd : ∀ pre W, J pre W → J pre W.drew)
    (hY : ∀ pre x W, J pre W → pre.length < N → YieldAt F (n - 1) Try.prog l #[.slice (some ⟨b, off + x.1.toNat, none⟩) 2 2] W fun e W' =>
      (e = .returned (.bool true) ∧ J (pre ++ [x]) W' ∧ KpC n₀ Bs Bn W W') ∨ (e = .returned (.bool false) ∧ Jx (pre ++ [x]) W'))
    (W : World) (hs : W.cell? ⟨Bs, 0, none⟩ = some (.slice (some ⟨b, off, none⟩) (2 * N) cap)) (hm : W.cell? ⟨Bn, 0, none⟩ = some (.int .i64 2)) (h0 : J [] W) :
    CallsIn F n Try.prog 86 #[.func (.yield l) #[] #[], .pointer (some ⟨Bs, 0, none⟩), .pointer (some ⟨Bn, 0, none⟩)] W fun e W' => (∃ v, e = .returned v) ∧
      ((∃ ys, ys.map Subtype.val = offs N ∧ J ys W') ∨ (∃ pre, True ∧ Jx pre W')) := by
  refine callsIn_of_wp Try.func86 rfl h7 ?_ hro
  simp only [Try.ntmps86, List.size_toArray, List.length_cons, List.length_nil, Nat.reduceAdd, Nat.reduceSub, Array.replicate_succ, Array.replicate_zero, List.push_toArray, List.append_toArray, List.nil_append, List.cons_append]
  gi_wp2
  gi_loopw [4] (fun i wr => ∃ (k : Nat) (j : Int) (pre : List (Off N)), k ≤ N ∧ 0 ≤ j ∧ Hid (j = 2 * (k : Int)) ∧ i = .int .i64 j ∧ Hid (pre.map Subtype.val = offs k) ∧ J pre wr ∧ KpC n₀ Bs Bn W wr)
    (fun i _ => 2 * N - (intOf i).toNat)
  case atStart => exact ⟨0, 0, [], Nat.zero_le _, by omega, rfl, rfl, rfl, h0, Below.refl _ _, rfl, rfl⟩
  case round =>
    obtain ⟨k, j, pre, hk, hj0, hj, rfl, hpre, hJs, hnx⟩ := hrel
    have c1 : wr.cell? ⟨Bs, 0, none⟩ = some (.slice (some ⟨b, off, none⟩) (2 * N) cap) := (World.cell?_of_block (a := ⟨Bs, 0, none⟩) hnx.2.1).trans hs
    have c2 : wr.cell? ⟨Bn, 0, none⟩ = some (.int .i64 2) := (World.cell?_of_block (a := ⟨Bn, 0, none⟩) hnx.2.2).trans hm
    by_cases hlt : k < N
    · have hjl : j + 2 ≤ ((2 * N : Nat) : Int) := by have := hj.out; omega
      have hjn : j < ((2 * N : Nat) : Int) := by omega
      have hpl : pre.length < N := by
        have := congrArg List.length hpre.out
        rw [List.length_map, offs_length] at this
        omega
      obtain ⟨fn, tmps, assign, body, hy, hR⟩ := hY pre ⟨j, hj0, by omega⟩ wr.drew (hJd _ _ hJs) hpl
      dsimp only at hy
      have hA := @cell?_allocs
      obtain ⟨m, hm1⟩ : ∃ m, 2 * N - j.toNat = m := ⟨_, rfl⟩
      have hm2 : min 2 (m : Int) = 2 := by omega
      have hm3 : (j + 2).toNat - j.toNat = 2 := by omega
      have hq1 : j ≤ 2 * (N : Int) := by omega
      have hq2 : ¬ cap = j.toNat := by omega
      have hq3 : j + 2 ≤ (cap : Int) := by omega
      have hq4 : j ≤ j + 2 := by omega
      have hj2 : 0 ≤ j + 2 := by omega
      gi_wp2
      refine wpIn_region_calm [0, 1, 2, 3, 4, 5] [6] (by kernel_rfl) (by kernel_rfl) (by kernel_rfl) ?_
      simp only [pickOps, List.filterMap_cons, List.filterMap_nil, List.getElem?_cons_succ, List.getElem?_cons_zero]
      repeat (refine wpCalm_step (fun K hK => ?_); go_simp; refine hK _ ?_; clear hK K)
      refine wpCalm_nil ?_
      clear hA
      go_wp2
      simp only [noOut]
      gi_wp2
      refine hR.mono ?_
      rintro e W3 (⟨rfl, hJ3, hk3⟩ | ⟨rfl, hJx3⟩)
      · have hnx3 : KpC n₀ Bs Bn W W3 := hnx.trans ⟨((Below.refl n₀ wr).drew).trans hk3.1, hk3.2.1, hk3.2.2⟩
        have d1 := (World.cell?_of_block (a := ⟨Bs, 0, none⟩) hnx3.2.1).trans hs
        have d2 := (World.cell?_of_block (a := ⟨Bn, 0, none⟩) hnx3.2.2).trans hm
        gi_wp2
        go_roundw
        case rel => exact ⟨k + 1, j + 2, _, by omega, hj2, (by show _ = _; have := hj.out; omega), rfl, (by show _ = _; rw [List.map_append, hpre.out, offs_succ, ← hj.out]; rfl), hJ3, hnx3⟩
        case measure => simp [intOf]; omega
      · gi_wp2
        refine bodyPost_ret (results_none rfl _ _ _) rfl ?_
        exact ⟨⟨_, rfl⟩, .inr (by first | exact ⟨_, trivial, hJx3⟩ | exact ⟨_, hJx3⟩)⟩
    · have hjl : ¬ j < ((2 * N : Nat) : Int) := by have := hj.out; omega
      obtain rfl : k = N := by omega
      gi_wp2
      go_end0
      exact ⟨⟨_, rfl⟩, .inl ⟨pre, hpre.out, hJs⟩⟩

/-- slices.Chunk's value hands out the pairs' offsets. -/
theorem chunk_stops (F : Fence) (n : Nat) (h7 : F.fn 86) (hro : F.round = none) (hn : 1 ≤ n) (Bs Bn n₀ b off cap N : Nat) (hN : N ≤ 32) (hcap : 2 * N ≤ cap) (hcm : cap ≤ 9223372036854775807) (w : World) (hBs : Bs < w.heap.size) (hBn : Bn < w.heap.size)
    (hs : w.cell? ⟨Bs, 0, none⟩ = some (.slice (some ⟨b, off, none⟩) (2 * N) cap)) (hm : w.cell? ⟨Bn, 0, none⟩ = some (.int .i64 2)) :
    SeqStopsK F n Try.prog 86 #[.pointer (some ⟨Bs, 0, none⟩), .pointer (some ⟨Bn, 0, none⟩)] (fun x : Off N => #[.slice (some ⟨b, off + x.1.toNat, none⟩) 2 2]) (KpC n₀ Bs Bn) (fun ys => ys.map Subtype.val = offs N) (fun _ => True) N w := fun l J Jx W hW hJ _ hY h0 =>
  chunk1_in F n h7 hro hn l Bs Bn n₀ b off cap N hN hcap hcm J Jx (fun pre W1 h => hJ pre W1 W1.drew none h ⟨rfl, rfl, rfl, Nat.le_refl _, fun _ _ _ => rfl⟩ (fun r e => by cases e)) hY W ((hW.cell (p := ⟨Bs, 0, none⟩) hBs).trans hs) ((hW.cell (p := ⟨Bn, 0, none⟩) hBn).trans hm) h0

theorem gms_offs (many : Int) (l : List Int) (k : Nat) : gms many l k = (offs k).map (gm many l) := by
  simp [gms, offs, Function.comp_def]

theorem boxed_app {W w1 : World} {n₀ Bo R : Nat} {t e : TypeId} {size : Nat} {v v' : Value} {k m : Nat} {xs ys : List Value} {tmp : Obj} (hv : Boxed W Bo t v) (hrow : W.ownsRow R e size v k xs) (hn : n₀ ≤ Bo) (hBR : Bo < R) (hR : R ≤ W.heap.size)
    (hown' : w1.ownsRow R e size v' m ys) (hg : (W.alloc tmp).grownBy w1 v.ownBlock) :
    Boxed w1 Bo t v ∧ Boxed (w1.setCell ⟨Bo, 0, none⟩ v') Bo t v' ∧ (w1.setCell ⟨Bo, 0, none⟩ v').ownsRow R e size v' m ys ∧ KeepsOthers W (w1.setCell ⟨Bo, 0, none⟩ v') ∧ Below n₀ W (w1.setCell ⟨Bo, 0, none⟩ v') ∧
      (∀ k, k < R → k ≠ Bo → (w1.setCell ⟨Bo, 0, none⟩ v').heap[k]? = W.heap[k]?) := by
  have hne : some Bo ≠ v.ownBlock := fun h => by have := (hrow.lt Bo h.symm).1; omega
  have hne' : v'.ownBlock ≠ some Bo := fun h => by have := (hown'.lt Bo h).1; omega
  have hv1 : Boxed w1 Bo t v := (hv.alloc tmp).kept hg hne
  refine ⟨hv1, hv1.set v', hown'.kept (grownBy_setCell' w1 Bo v') (.inr hne'), ?_, ?_, ?_⟩
  · refine ((KeepsOthers.alloc W tmp).trans (KeepsOthers.of_grownBy hg fun j o ej hj => ?_)).trans (KeepsOthers.setCell _ _ _)
    rcases (hrow.alloc tmp).2 with ⟨rfl, _⟩ | ⟨g, cap, cur, rfl, _, hgb, _⟩
    · simp [Value.ownBlock] at ej
    · obtain rfl : g = j := by simpa [Value.ownBlock] using ej
      rw [hgb] at hj; cases hj; rfl
  · exact (((Below.refl n₀ W).alloc (by omega) tmp).grown hg (by simp; omega) fun j ej => by have := (hrow.lt j ej).1; omega).setCell (p := ⟨Bo, 0, none⟩) hn v'
  · intro k hk hkB
    rw [Below.heap_setCell _ _ _ _ hkB, hg.block k (by simp; omega) (fun h => by have := (hrow.lt k h.symm).1; omega), Below.heap_alloc _ _ _ (by omega)]

set_option maxRecDepth 100000 in
set_option maxHeartbeats 4000000 in
theorem paired_any (many : Int) (l : List Int) (b off cap N : Nat) (w : World) (hN : N ≤ 32) (hl : l.length = 2 * N) (hcap : 2 * N ≤ cap) (hcm : cap ≤ 9223372036854775807) (hb : b < w.heap.size)
    (hcell : ∀ i : Int, 0 ≤ i → i < l.length → w.cell? ⟨b, off + i.toNat, none⟩ = some (.int .i64 (geti l i))) :
    Calls Try.prog 57 #[.slice (some ⟨b, off, none⟩) (2 * N) cap, .int .i64 many] w fun e w' => ∃ v, e = .returned v ∧ w'.ownsRow w.heap.size 84 2 v N (cells2 (gms many l N)) ∧ Below w.heap.size w w' := by
  have hE := el_pair2
  refine (callsIn_wide (n := 3)).1 ?_
  refine callsIn_of_wp_marks Try.func57 rfl trivial ?_ rfl
  simp only [Try.ntmps57, List.size_toArray, List.length_cons, List.length_nil, Nat.reduceAdd, Nat.reduceSub, Array.replicate_succ, Array.replicate_zero, List.push_toArray, List.append_toArray, List.nil_append, List.cons_append]
  gi_wp2_with (refine ⟨trivial, ?_⟩; gi_at_call 80; refine (chunk_in Fence.wide (3 - 1) trivial rfl _ _ _ _).mono ?_; rintro e w' ⟨rfl, rfl⟩)
  have hsz4 : ((((w.alloc (.cells #[.int .i64 many] 3)).alloc (.cells #[.slice none 0 0] 80)).alloc (.cells #[.slice (some ⟨b, off, none⟩) (2 * N) cap] 22)).alloc (.cells #[.int .i64 2] 3)).heap.size = w.heap.size + 4 := by simp
  have hB4 : Below w.heap.size w ((((w.alloc (.cells #[.int .i64 many] 3)).alloc (.cells #[.slice none 0 0] 80)).alloc (.cells #[.slice (some ⟨b, off, none⟩) (2 * N) cap] 22)).alloc (.cells #[.int .i64 2] 3)) :=
    ((((Below.refl _ w).alloc (Nat.le_refl _) _).alloc (by simp) _).alloc (by simp; omega) _).alloc (by simp; omega) _
  have bM : Boxed ((((w.alloc (.cells #[.int .i64 many] 3)).alloc (.cells #[.slice none 0 0] 80)).alloc (.cells #[.slice (some ⟨b, off, none⟩) (2 * N) cap] 22)).alloc (.cells #[.int .i64 2] 3)) w.heap.size 3 (.int .i64 many) := (((Boxed.new w _ _).alloc _).alloc _).alloc _
  have bO : Boxed ((((w.alloc (.cells #[.int .i64 many] 3)).alloc (.cells #[.slice none 0 0] 80)).alloc (.cells #[.slice (some ⟨b, off, none⟩) (2 * N) cap] 22)).alloc (.cells #[.int .i64 2] 3)) (w.heap.size + 1) 80 (.slice none 0 0) := by
    have := ((Boxed.new (w.alloc (.cells #[.int .i64 many] 3)) 80 (.slice none 0 0)).alloc (.cells #[.slice (some ⟨b, off, none⟩) (2 * N) cap] 22)).alloc (.cells #[.int .i64 2] 3)
    rwa [World.size_alloc] at this
  have bS : Boxed ((((w.alloc (.cells #[.int .i64 many] 3)).alloc (.cells #[.slice none 0 0] 80)).alloc (.cells #[.slice (some ⟨b, off, none⟩) (2 * N) cap] 22)).alloc (.cells #[.int .i64 2] 3)) (w.heap.size + 2) 22 (.slice (some ⟨b, off, none⟩) (2 * N) cap) := by
    have := (Boxed.new ((w.alloc (.cells #[.int .i64 many] 3)).alloc (.cells #[.slice none 0 0] 80)) 22 (.slice (some ⟨b, off, none⟩) (2 * N) cap)).alloc (.cells #[.int .i64 2] 3)
    rwa [World.size_alloc, World.size_alloc] at this
  have bN : Boxed ((((w.alloc (.cells #[.int .i64 many] 3)).alloc (.cells #[.slice none 0 0] 80)).alloc (.cells #[.slice (some ⟨b, off, none⟩) (2 * N) cap] 22)).alloc (.cells #[.int .i64 2] 3)) (w.heap.size + 3) 3 (.int .i64 2) := by
    have := Boxed.new (((w.alloc (.cells #[.int .i64 many] 3)).alloc (.cells #[.slice none 0 0] 80)).alloc (.cells #[.slice (some ⟨b, off, none⟩) (2 * N) cap] 22)) 3 (.int .i64 2)
    rwa [World.size_alloc, World.size_alloc, World.size_alloc] at this
  generalize hw4 : ((((w.alloc (.cells #[.int .i64 many] 3)).alloc (.cells #[.slice none 0 0] 80)).alloc (.cells #[.slice (some ⟨b, off, none⟩) (2 * N) cap] 22)).alloc (.cells #[.int .i64 2] 3)) = w4 at *
  clear hw4
  try rw [show w.heap.size + 1 + 1 = w.heap.size + 2 from rfl]
  refine wpIn_rangeFunc_ownG rfl (by omega) (gf := 86) (lb := #[.pointer (some ⟨w.heap.size + 2, 0, none⟩), .pointer (some ⟨w.heap.size + 3, 0, none⟩)]) rfl trivial (enters_of Try.func86 (by kernel_rfl) rfl)
    (chunk_stops Fence.wide (3 - 1) trivial rfl (by omega) (w.heap.size + 2) (w.heap.size + 3) w.heap.size b off cap N hN hcap hcm w4 (by omega) (by omega) bS.cell bN.cell) KpC.trans
    (fun W l o o' h1 h2 h3 h4 => ⟨belowK_b (w := w) (Nat.le_refl _) W l o o' (by omega) h2 h3 h4, World.putObj_heap_other (by omega), World.putObj_heap_other (by omega)⟩) (Below.refl _ _) (fun _ => rfl)
    (fun (pre : List (Off N)) W => ((∃ v, Boxed W (w.heap.size + 1) 80 v ∧ W.ownsRow (w.heap.size + 4) 84 2 v pre.length (cells2 ((pre.map Subtype.val).map (gm many l))) ∧ True) ∧ Boxed W w.heap.size 3 (.int .i64 many)) ∧ Below w.heap.size w4 W)
    (fun _ _ _ => False)
    (OwnFrom.and (OwnFrom.and (Own.from (holdsRow_own (w.heap.size + 4) (w.heap.size + 1) 80 84 2 (fun (pre : List (Off N)) => pre.length) (fun (pre : List (Off N)) => cells2 ((pre.map Subtype.val).map (gm many l))) (fun _ _ => True)) _)
      (Own.from (fun s A B row hs hg hr => hs.kept hg (fun e => (by obtain ⟨o, ho, hc⟩ := hr _ e.symm; rw [show A.heap[w.heap.size]? = _ from hs] at ho; cases ho; cases hc))) _)) (ownFrom_below (by omega) (by omega)))
    (fun _ _ _ _ _ hs _ _ => hs)
    ⟨⟨⟨_, bO, World.ownsRow_nil _ _ _ _, trivial⟩, bM⟩, Below.refl _ _⟩
    (fun x => { tmps := #[.slice (some ⟨b, off, none⟩) (2 * N) cap, .int .i64 many, undef, .pointer (some ⟨w.heap.size, 0, none⟩), .slice none 0 0, .pointer (some ⟨w.heap.size + 1, 0, none⟩), .slice (some ⟨b, off + x.1.toNat, none⟩) 2 2, undef, .slice (some ⟨b, off, none⟩) (2 * N) cap, .func (.func 86) #[] #[.pointer (some ⟨w.heap.size + 2, 0, none⟩), .pointer (some ⟨w.heap.size + 3, 0, none⟩)], .slice (some ⟨b, off + x.1.toNat, none⟩) 2 2, undef, undef, undef, undef, undef, undef, undef, undef, undef, undef, undef, undef, undef, undef, undef, undef, undef, undef, undef, undef, undef, undef, undef, undef, undef], defers := [] }) ?assign ?body ?done ?stop
  case assign =>
    intro l x W K hK
    gi_wp2
    exact hK
  case body =>
    rintro l' pre ⟨x, hx0, hx2⟩ W ⟨⟨⟨v, hv, hrow, _⟩, hbm⟩, hB⟩ hlt
    dsimp only
    have hbm1 : ∀ o, (W.alloc o).cell? ⟨w.heap.size, 0, none⟩ = some (.int .i64 many) := fun o => (hbm.alloc o).cell
    have hv1' : ∀ o, (W.alloc o).cell? ⟨w.heap.size + 1, 0, none⟩ = some v := fun o => (hv.alloc o).cell
    have hsW : w.heap.size + 4 ≤ W.heap.size := by have := hB.size; omega
    have hc0 : W.cell? ⟨b, off + x.toNat, none⟩ = some (.int .i64 (geti l x)) := ((hB4.trans hB).cell (p := ⟨b, off + x.toNat, none⟩) hb).trans (hcell x hx0 (by omega))
    have hc1 : W.cell? ⟨b, off + x.toNat + 1, none⟩ = some (.int .i64 (geti l (x + 1))) := by
      have := ((hB4.trans hB).cell (p := ⟨b, off + (x + 1).toNat, none⟩) hb).trans (hcell (x + 1) (by omega) (by omega))
      rwa [show off + (x + 1).toNat = off + x.toNat + 1 by omega] at this
    have Hgm : Hid (gm many l x = (min (geti l x) (geti l (x + 1)), if many < max (geti l x) (geti l (x + 1)) then 0 else max (geti l x) (geti l (x + 1)))) := rfl
    generalize geti l x = x0 at *
    generalize geti l (x + 1) = x1 at *
    have hn : ∀ (p : Int × Int), gm many l x = p → cells2 (((pre ++ [(⟨x, hx0, hx2⟩ : Off N)]).map Subtype.val).map (gm many l)) = cells2 ((pre.map Subtype.val).map (gm many l)) ++ [.int .i64 p.1, .int .i64 p.2] := by
      intro p hp
      rw [List.map_append, List.map_append, List.map_cons, List.map_nil, List.map_cons, List.map_nil, cells2_snoc, hp]
    have Hn := Lib.hid hn
    clear hcell bS bN bO bM hn
    by_cases hmx : many < max x0 x1
    all_goals
      have hA := @cell?_allocs
      gi_wp2
      refine wpIn_region_calm [0, 1, 2, 3, 4, 5, 6, 7, 8, 9, 10, 11, 12, 13, 14] [15, 16] (by kernel_rfl) (by kernel_rfl) (by kernel_rfl) ?_
      simp only [pickOps, List.filterMap_cons, List.filterMap_nil, List.getElem?_cons_succ, List.getElem?_cons_zero]
      repeat (refine wpCalm_step (fun K hK => ?_); go_simp; refine hK _ ?_; clear hK K)
      refine wpCalm_nil ?_
      clear hA
      go_wp2
      simp only [noOut]
    · gi_wp2_with (gi_at_builtin; refine app_lawIn rfl _ _ _ rfl hE ((hrow.alloc _).alloc _) rfl [.int .i64 (min x0 x1), .int .i64 0] rfl rfl (cells_at (W.alloc _) #[_, _] _ _ (by simp)) (by simp [Value.oneCell']) (by omega) (by simp; omega) ?_; intro v' w1 hown' hgr; obtain ⟨g', cap', rfl⟩ := ownsRow_succ hown'; obtain ⟨hv1, hv2, hr2, hk2, hb2, hh2⟩ := boxed_app (n₀ := w.heap.size) (hv.alloc _) (hrow.alloc _) (by omega) (by omega) (by simp; omega) hown' (grown_of_drew hgr); have hc1 := hv1.cell; have hf1 := hv1.frozen)
      refine ⟨((KeepsOthers.alloc W _).trans hk2).from _, ⟨((Below.refl w.heap.size W).alloc (by omega) _).trans hb2, ?_, ?_⟩, ⟨⟨⟨_, hv2, ?_, trivial⟩, ?_⟩, hB.trans (((Below.refl w.heap.size W).alloc (by omega) _).trans hb2)⟩⟩
      · rw [hh2 _ (by omega) (by omega)]; exact Below.heap_alloc _ _ _ (by omega)
      · rw [hh2 _ (by omega) (by omega)]; exact Below.heap_alloc _ _ _ (by omega)
      · rw [Hn.out (min x0 x1, 0) (by rw [Hgm.out]; rw [if_pos hmx]), List.length_append]; exact hr2
      · show _ = _; rw [hh2 _ (by omega) (by omega), Below.heap_alloc _ _ _ (by omega)]; exact hbm
    · gi_wp2_with (gi_at_builtin; refine app_lawIn rfl _ _ _ rfl hE ((hrow.alloc _).alloc _) rfl [.int .i64 (min x0 x1), .int .i64 (max x0 x1)] rfl rfl (cells_at (W.alloc _) #[_, _] _ _ (by simp)) (by simp [Value.oneCell']) (by omega) (by simp; omega) ?_; intro v' w1 hown' hgr; obtain ⟨g', cap', rfl⟩ := ownsRow_succ hown'; obtain ⟨hv1, hv2, hr2, hk2, hb2, hh2⟩ := boxed_app (n₀ := w.heap.size) (hv.alloc _) (hrow.alloc _) (by omega) (by omega) (by simp; omega) hown' (grown_of_drew hgr); have hc1 := hv1.cell; have hf1 := hv1.frozen)
      refine ⟨((KeepsOthers.alloc W _).trans hk2).from _, ⟨((Below.refl w.heap.size W).alloc (by omega) _).trans hb2, ?_, ?_⟩, ⟨⟨⟨_, hv2, ?_, trivial⟩, ?_⟩, hB.trans (((Below.refl w.heap.size W).alloc (by omega) _).trans hb2)⟩⟩
      · rw [hh2 _ (by omega) (by omega)]; exact Below.heap_alloc _ _ _ (by omega)
      · rw [hh2 _ (by omega) (by omega)]; exact Below.heap_alloc _ _ _ (by omega)
      · rw [Hn.out (min x0 x1, max x0 x1) (by rw [Hgm.out]; rw [if_neg (by omega)]), List.length_append]; exact hr2
      · show _ = _; rw [hh2 _ (by omega) (by omega), Below.heap_alloc _ _ _ (by omega)]; exact hbm
  case done =>
    rintro D ys W hD hys ⟨⟨⟨v, hv, hrow, _⟩, hbm⟩, hB⟩ hK
    have hc := hv.cell
    have hyl := congrArg List.length hys
    rw [List.length_map, offs_length] at hyl
    rw [hys, hyl, ← gms_offs] at hrow
    clear hys hyl
    gi_wp2
    refine ⟨by simp, .inl ⟨_, _, rfl, run_takeDeferred hK, ?_⟩⟩
    exact ⟨_, results_tmp rfl _ _ _, v, rfl, owns_mono (ownsRow_putObj hrow _ hK rfl) (by omega), hB4.trans (hB.trans (belowK_b (w := w) (Nat.le_refl _) W D _ _ (by omega) hK rfl rfl))⟩
  case stop =>
    rintro D c pre W _ _ h _
    exact h.elim

end Go.Proofs.Ytkdimgghljklmaa
/-
  Fixed and First: the program's and the reference's. Conditions: a list of winners of fewer than 2^40 numbers.
-/
set_option linter.unusedVariables false
namespace Go.Proofs.Ytkdimgghljklmaa
open Go.RowKit Go.Bw

/-- What is wrong with winner i. -/
def fixAt (many : Int) (all ws : List Int) (part i : Int) : Int :=
  if outB (geti ws i) 1 many then 1 else if hasI (subl ws 0 i) (geti ws i) then 6 else if hasI (subl all (i * part) ((i + 1) * part)) (geti ws i) then 0 else 13
def oddB (n : Int) : Bool := bits BinOp.and IntKind.i64 n (n - 1) != 0
def fixE (many : Int) (ws : List Int) : Int :=
  if outB many 2 20 then 1 else if 20 < ws.length then 2 else if ws.length < 2 ∨ oddB ws.length = true ∨ (bracketL many).length < 2 * ws.length then 3
  else firstErr (fixAt many (bracketL many) ws ((bracketL many).length / ws.length)) ws.length
def fixR (many : Int) (ws : List Int) : List (Int × Int) := if fixE many ws = 0 then gms many ws (ws.length / 2) else []

theorem fix_1 {many : Int} {ws : List Int} (h : outB many 2 20 = true) : fixE many ws = 1 ∧ fixR many ws = [] := by
  have : fixE many ws = 1 := by simp [fixE, h]
  exact ⟨this, by simp [fixR, this]⟩
theorem fix_2 {many : Int} {ws : List Int} (h : outB many 2 20 = false) (h2 : 20 < ws.length) : fixE many ws = 2 ∧ fixR many ws = [] := by
  have : fixE many ws = 2 := by simp [fixE, h, h2]
  exact ⟨this, by simp [fixR, this]⟩
theorem fix_3 {many : Int} {ws : List Int} (h : outB many 2 20 = false) (h2 : ¬ 20 < ws.length) (h3 : ws.length < 2 ∨ oddB ws.length = true ∨ (bracketL many).length < 2 * ws.length) : fixE many ws = 3 ∧ fixR many ws = [] := by
  have : fixE many ws = 3 := by unfold fixE; rw [if_neg (by simp [h]), if_neg h2, if_pos h3]
  exact ⟨this, by simp [fixR, this]⟩
theorem fix_f {many : Int} {ws : List Int} (h : outB many 2 20 = false) (h2 : ¬ 20 < ws.length) (h3 : ¬ (ws.length < 2 ∨ oddB ws.length = true ∨ (bracketL many).length < 2 * ws.length)) :
    fixE many ws = firstErr (fixAt many (bracketL many) ws ((bracketL many).length / ws.length)) ws.length := by
  unfold fixE; rw [if_neg (by simp [h]), if_neg h2, if_neg h3]
theorem fix_hit {many : Int} {ws : List Int} {P : Int} (hP : ((bracketL many).length : Int) / ws.length = P) (h : outB many 2 20 = false) (h2 : ¬ 20 < ws.length) (h3 : ¬ (ws.length < 2 ∨ oddB ws.length = true ∨ (bracketL many).length < 2 * ws.length)) {i c : Int}
    (hn : NoErr (fixAt many (bracketL many) ws P) i) (h0 : 0 ≤ i) (h1 : i < ws.length) (hc : fixAt many (bracketL many) ws P i = c) (hne : c ≠ 0) : fixE many ws = c ∧ fixR many ws = [] := by
  subst hP
  have : fixE many ws = c := by rw [fix_f h h2 h3, firstErr_hit hn h0 h1 (by rw [hc]; exact hne), hc]
  exact ⟨this, by simp [fixR, this, hne]⟩
theorem fix_0 {many : Int} {ws : List Int} {P : Int} (hP : ((bracketL many).length : Int) / ws.length = P) (h : outB many 2 20 = false) (h2 : ¬ 20 < ws.length) (h3 : ¬ (ws.length < 2 ∨ oddB ws.length = true ∨ (bracketL many).length < 2 * ws.length))
    (hn : NoErr (fixAt many (bracketL many) ws P) ws.length) : fixE many ws = 0 ∧ fixR many ws = gms many ws (ws.length / 2) := by
  subst hP
  have : fixE many ws = 0 := by rw [fix_f h h2 h3, firstErr_none hn]
  exact ⟨this, by simp [fixR, this]⟩

theorem even_of (n : Nat) (h : 2 ≤ n) (h' : n ≤ 20) (ho : oddB n = false) : n % 2 = 0 := by
  have : n = 2 ∨ n = 3 ∨ n = 4 ∨ n = 5 ∨ n = 6 ∨ n = 7 ∨ n = 8 ∨ n = 9 ∨ n = 10 ∨ n = 11 ∨ n = 12 ∨ n = 13 ∨ n = 14 ∨ n = 15 ∨ n = 16 ∨ n = 17 ∨ n = 18 ∨ n = 19 ∨ n = 20 := by omega
  rcases this with rfl | rfl | rfl | rfl | rfl | rfl | rfl | rfl | rfl | rfl | rfl | rfl | rfl | rfl | rfl | rfl | rfl | rfl | rfl
  all_goals first | rfl | exact absurd ho (by decide +kernel)

/-- The part of winner k. -/
theorem part_bounds (L n : Nat) (k : Int) (h0 : 0 ≤ k) (h1 : k < n) (hL : L ≤ 64) (hn : 2 * n ≤ L) : 0 ≤ k * ((L : Int) / n) ∧ k * ((L : Int) / n) < (k + 1) * ((L : Int) / n) ∧ (k + 1) * ((L : Int) / n) ≤ L ∧ 1 ≤ (L : Int) / n ∧ (L : Int) / n ≤ L := by
  have hn0 : (0 : Int) < n := by omega
  have hp : 1 ≤ (L : Int) / n := by
    have : (1 : Int) * n ≤ L := by omega
    exact (Int.le_ediv_iff_mul_le hn0).2 this
  have hm : (n : Int) * ((L : Int) / n) ≤ L := Int.mul_ediv_self_le (by omega)
  have h2 : (k + 1) * ((L : Int) / n) ≤ n * ((L : Int) / n) := Int.mul_le_mul_of_nonneg_right (by omega) (by omega)
  have h3 : (k + 1) * ((L : Int) / n) = k * ((L : Int) / n) + (L : Int) / n := by rw [Int.add_mul, Int.one_mul]
  have h4 : 0 ≤ k * ((L : Int) / n) := Int.mul_nonneg h0 (by omega)
  have h5 : (L : Int) / n ≤ L := Int.ediv_le_self _ (by omega)
  omega

theorem paired_n (many : Int) (l : List Int) (b off cap n N : Nat) (w : World) (hn : n = 2 * N) (hN : N ≤ 32) (hl : l.length = n) (hcap : n ≤ cap) (hcm : cap ≤ 9223372036854775807) (hb : b < w.heap.size)
    (hcell : ∀ i : Int, 0 ≤ i → i < l.length → w.cell? ⟨b, off + i.toNat, none⟩ = some (.int .i64 (geti l i))) :
    Calls Try.prog 57 #[.slice (some ⟨b, off, none⟩) n cap, .int .i64 many] w fun e w' => ∃ v, e = .returned v ∧ w'.ownsRow w.heap.size 84 2 v N (cells2 (gms many l N)) ∧ Below w.heap.size w w' := by
  subst hn
  exact paired_any many l b off cap N w hN hl hcap hcm hb hcell

def firstR (many : Int) : List (Int × Int) := if outB many 2 20 then [] else gms many (bracketL many) ((bracketL many).length / 2)

theorem bracket_even (many : Int) (hm : 2 ≤ many) (hm' : many ≤ 20) : (bracketL many).length % 2 = 0 := by
  have hL := bracketL_length many hm hm'
  have h1 : 1 ≤ roundsF many := by
    unfold roundsF; repeat' split
    all_goals omega
  have h2 : roundsF many = 1 ∨ roundsF many = 2 ∨ roundsF many = 3 ∨ roundsF many = 4 ∨ roundsF many = 5 := by have := roundsF_le many; omega
  have := hL.2.1
  rcases h2 with h2 | h2 | h2 | h2 | h2 <;> rw [h2] at this <;> simp at this <;> omega

set_option maxRecDepth 100000 in
set_option maxHeartbeats 1000000 in
theorem first_prog (many : Int) (w : World) : Calls Try.prog 54 #[.int .i64 many] w fun e w' => ∃ v, e = .returned (.tuple #[v, .int .i64 (manyF many)]) ∧ w'.ownsRow w.heap.size 84 2 v (firstR many).length (cells2 (firstR many)) ∧ Below w.heap.size w w' := by
  cases h : outB many 2 20
  · have h2 := outB_false h
    have hL := (bracketL_length many h2.1 h2.2).2.2
    have hev := bracket_even many h2.1 h2.2
    have hR := Lib.hid (show firstR many = gms many (bracketL many) ((bracketL many).length / 2) by simp [firstR, h])
    rw [manyF_ok h]
    go_enter Try.func54, Try.ntmps54
    go_wp2_with (first | (go_at_call 79; refine (manyFault_prog _ _).mono ?_; rw [manyF_ok h]; rintro e w1 ⟨rfl, rfl⟩) | (go_at_call 58; refine (places_any _ _ (by omega)).mono ?_; rintro e w1 ⟨g, cap, rfl, hown, hbel⟩; have hsz := owns_sizes hown) | (go_at_call 57; refine (paired_n many (bracketL many) g 0 cap _ ((bracketL many).length / 2) _ (by omega) (by omega) rfl hsz.2.2.1 hsz.2.2.2 hsz.2.1 (by intro i h0 h1; rw [Nat.zero_add]; exact ints_of_owns hown i h0 h1)).mono ?_; rintro e w2 ⟨v2, rfl, hown2, hbel2⟩))
    go_ret2
    exact ⟨_, rfl, by rw [hR.out, gms_length, show (((bracketL many).length : Int) / 2).toNat = (bracketL many).length / 2 by omega]; exact owns_mono hown2 hbel.size, hbel.trans (hbel2.mono hbel.size)⟩
  · have hR := Lib.hid (show firstR many = [] by simp [firstR, h])
    rw [manyF_bad h]
    go_enter Try.func54, Try.ntmps54
    go_wp2_with (go_at_call 79; refine (manyFault_prog _ _).mono ?_; rw [manyF_bad h]; rintro e w1 ⟨rfl, rfl⟩)
    go_ret2
    exact ⟨_, rfl, by rw [hR.out]; exact World.ownsRow_nil _ _ _ _, Below.refl _ _⟩

end Go.Proofs.Ytkdimgghljklmaa
/-
  slices.Equal at pairs of seeds; the law's own look that the package makes brackets. Condition: fewer than 2^40 pairs.
-/
set_option linter.unusedVariables false
namespace Go.Proofs.Ytkdimgghljklmaa
open Go.RowKit Go.Bw

def getp (l : List (Int × Int)) (i : Int) : Int × Int := l[i.toNat]?.getD (0, 0)

theorem cells2_get (l : List (Int × Int)) : ∀ (k : Nat), k < l.length → (cells2 l)[2 * k]? = some (.int .i64 (l[k]?.getD (0, 0)).1) ∧ (cells2 l)[2 * k + 1]? = some (.int .i64 (l[k]?.getD (0, 0)).2) := by
  induction l with
  | nil => intro k hk; simp at hk
  | cons p l ih =>
    intro k hk
    have e : cells2 (p :: l) = .int .i64 p.1 :: .int .i64 p.2 :: cells2 l := rfl
    cases k with
    | zero => simp [e]
    | succ k =>
      have := ih k (by simpa using hk)
      rw [e, show 2 * (k + 1) = 2 * k + 1 + 1 by omega, show 2 * k + 1 + 1 + 1 = (2 * k + 1) + 1 + 1 by omega]
      simpa using this

theorem row_pairs {w : World} {base n : Nat} {v : Value} {xs : List (Int × Int)} (h : Row w base 2 v n (cells2 xs)) :
    xs.length = n ∧ ((v = .slice none 0 0 ∧ n = 0) ∨ ∃ b off cap, v = .slice (some ⟨b, off, none⟩) n cap ∧ base ≤ b ∧ b < w.heap.size ∧ n ≤ cap ∧ cap ≤ maxLen ∧
      ∀ i : Int, 0 ≤ i → i < n → w.cell? ⟨b, off + i.toNat * 2, none⟩ = some (.int .i64 (getp xs i).1) ∧ w.cell? ⟨b, off + i.toNat * 2 + 1, none⟩ = some (.int .i64 (getp xs i).2)) := by
  obtain ⟨h1, h2⟩ := h
  have hl : xs.length = n := by have := cells2_length xs; omega
  refine ⟨hl, ?_⟩
  rcases h2 with h2 | ⟨b, off, cap, e, hb, hlt, hn, hc, hcell⟩
  · exact .inl h2
  · refine .inr ⟨b, off, cap, e, hb, hlt, hn, hc, fun i h0 hi => ?_⟩
    obtain ⟨g1, g2⟩ := cells2_get xs i.toNat (by omega)
    refine ⟨?_, ?_⟩
    · have := hcell _ _ g1
      rwa [show 2 * i.toNat = i.toNat * 2 by omega] at this
    · have := hcell _ _ g2
      rwa [show 2 * i.toNat + 1 = i.toNat * 2 + 1 by omega, ← Nat.add_assoc] at this

theorem row_of (w : World) (base e sz n : Nat) (v : Value) (cs : List Value) (h : w.ownsRow base e sz v n cs) : Row w base sz v n cs := Row.of_owns h
end Go.Proofs.Ytkdimgghljklmaa
/-
  The law's own look that the package makes brackets. No condition.
-/
set_option linter.unusedVariables false
namespace Go.Proofs.Ytkdimgghljklmaa
open Go.RowKit Go.Bw

theorem firstR_3 : firstR 3 = [(1, 0), (2, 3)] := by decide +kernel

set_option maxRecDepth 100000 in
set_option maxHeartbeats 1000000 in
theorem finished_any (w : World) : Calls Try.prog 24 #[] w fun e w' => e = .returned (.bool true) ∧ Below w.heap.size w w' := by
  go_enter Try.func24, Try.ntmps24
  go_wp2_with (go_at_call 54; refine (first_prog 3 _).mono ?_; rw [firstR_3, show manyF 3 = 0 from by decide +kernel]; rintro e w1 ⟨v, rfl, hown, hbel⟩; obtain ⟨hl, hc⟩ := row_pairs (Row.of_owns hown); rcases hc with ⟨_, h⟩ | ⟨b, off, cap, rfl, _, _, hn, hm, hcell⟩; (simp at h); have hc0 := (hcell 0 (by omega) (by simp)).1; simp [getp] at hc0; have hl2 : ([(1, 0), (2, 3)] : List (Int × Int)).length = 2 := rfl; clear hcell)
  go_ret
  exact ⟨rfl, hbel⟩
end Go.Proofs.Ytkdimgghljklmaa
/-
  The law LotsDrawn: teams, weights and lots that the stream hands out. No condition.
-/
set_option linter.unusedVariables false
namespace Go.Proofs.Ytkdimgghljklmaa
open Go.RowKit Go.Bw
noncomputable def lwB : Code := (Try.f3.body).getD .skip
set_option maxRecDepth 100000 in
theorem fr_lwB (f : Nat → Value) : frame 168 f = ⟨#[f 0, f 1, f 2, f 3, f 4, f 5, f 6, f 7, f 8, f 9, f 10, f 11, f 12, f 13, f 14, f 15, f 16, f 17, f 18, f 19, f 20, f 21, f 22, f 23, f 24, f 25, f 26, f 27, f 28, f 29, f 30, f 31, f 32, f 33, f 34, f 35, f 36, f 37, f 38, f 39, f 40, f 41, f 42, f 43, f 44, f 45, f 46, f 47, f 48, f 49, f 50, f 51, f 52, f 53, f 54, f 55, f 56, f 57, f 58, f 59, f 60, f 61, f 62, f 63, f 64, f 65, f 66, f 67, f 68, f 69, f 70, f 71, f 72, f 73, f 74, f 75, f 76, f 77, f 78, f 79, f 80, f 81, f 82, f 83, f 84, f 85, f 86, f 87, f 88, f 89, f 90, f 91, f 92, f 93, f 94, f 95, f 96, f 97, f 98, f 99, f 100, f 101, f 102, f 103, f 104, f 105, f 106, f 107, f 108, f 109, f 110, f 111, f 112, f 113, f 114, f 115, f 116, f 117, f 118, f 119, f 120, f 121, f 122, f 123, f 124, f 125, f 126, f 127, f 128, f 129, f 130, f 131, f 132, f 133, f 134, f 135, f 136, f 137, f 138, f 139, f 140, f 141, f 142, f 143, f 144, f 145, f 146, f 147, f 148, f 149, f 150, f 151, f 152, f 153, f 154, f 155, f 156, f 157, f 158, f 159, f 160, f 161, f 162, f 163, f 164, f 165, f 166, f 167], []⟩ := by rfl
theorem str_newL (w : World) (v : Value) (n : Nat) (zs : List Int) (e : TypeId) (h : SRow w v n zs w.heap.size) : Str w.heap.size (w.alloc (.cells #[v, .int .i64 0] e)) 0 := by
  refine ⟨v, n, zs, 0, ?_, ?_, ?_, by omega, by simp, h.swap (fun k hk => (World.grownBy_alloc w _ none).block k hk (by simp)) (by simp)⟩
  · rw [World.cell?_alloc_at _ _ _ _ rfl]; rfl
  · rw [World.cell?_alloc_at _ _ _ _ rfl]; rfl
  · exact frozen_new0 w #[v, .int .i64 0] e 1
/-- What has been handed out. -/
structure LG (n₀ B : Nat) (w0 : World) (b : Nat) (v4 v5 v9 : Value) (ts : List ByteArray) (ws lots : List Int) (w : World) : Prop where
  gs : GenS n₀ B w0 w b v9 lots
  ht : Held n₀ B w 1 ts.length v4 (cellsOf encSt ts)
  hw : Held n₀ B w 1 ws.length v5 (ws.map (.int .i64))
/-- How many there are. -/
structure LP (ts : List ByteArray) (ws : List Int) : Prop where
  t7 : ts.length ≤ 7
  w7 : ws.length ≤ 7
  sm : SmAll ts
section
variable {n₀ B b b' : Nat} {w0 w w' : World} {v4 v5 v9 v' : Value} {ts : List ByteArray} {ws lots : List Int}
theorem LG.drawn (h : LG n₀ B w0 b v4 v5 v9 ts ws lots w) (d : Drawn n₀ w w' b') : LG n₀ B w0 b' v4 v5 v9 ts ws lots w' := ⟨h.gs.drawn d.str d.gr, h.ht.str d.gr, h.hw.str d.gr⟩
theorem LG.alloc (h : LG n₀ B w0 b v4 v5 v9 ts ws lots w) (o : Obj) : LG n₀ B w0 b v4 v5 v9 ts ws lots (w.alloc o) := ⟨h.gs.alloc o, h.ht.alloc o, h.hw.alloc o⟩
theorem LG.app (h : LG n₀ B w0 b v4 v5 v9 ts ws lots w) {x : Int} (ho : w'.ownsRow B 3 1 v' (lots.length + 1) (lots.map (.int .i64) ++ [.int .i64 x])) (g : w.grownBy w' v9.ownBlock) : LG n₀ B w0 b v4 v5 v' ts ws (lots ++ [x]) w' :=
  ⟨h.gs.app ho g, h.ht.app h.gs.row g, h.hw.app h.gs.row g⟩
theorem LG.mono (h : LG n₀ B w0 b v4 v5 v9 ts ws lots w) (hb : b ≤ b') : LG n₀ B w0 b' v4 v5 v9 ts ws lots w := ⟨h.gs.mono hb, h.ht, h.hw⟩
end
/-- All the data; the stream is left behind. -/
structure LF (n₀ : Nat) (w0 : World) (v4 v5 v9 : Value) (ts : List ByteArray) (ws lots : List Int) (w : World) : Prop where
  bel : Below n₀ w0 w
  hz : n₀ ≤ w.heap.size
  dh : DH w v4 v5 v9 ts ws lots
  t7 : ts.length ≤ 7
theorem LF.below {n₀ : Nat} {w0 w w' : World} {v4 v5 v9 : Value} {ts : List ByteArray} {ws lots : List Int} (h : LF n₀ w0 v4 v5 v9 ts ws lots w) (b : Below w.heap.size w w') : LF n₀ w0 v4 v5 v9 ts ws lots w' :=
  ⟨h.bel.trans (b.mono h.hz), Nat.le_trans h.hz b.size, ⟨h.dh.h.below b, h.dh.l.below b, h.dh.ln⟩, h.t7⟩
theorem LG.done {n₀ B b : Nat} {w0 w : World} {v4 v5 v9 : Value} {ts : List ByteArray} {ws lots : List Int} (h : LG n₀ B w0 b v4 v5 v9 ts ws lots w) (p : LP ts ws) (hl : lots.length ≤ 1000) : LF n₀ w0 v4 v5 v9 ts ws lots w :=
  ⟨h.gs.bel, Nat.le_of_lt h.gs.str.lt, ⟨⟨h.ht.row, h.hw.row, fun s hs => (p.sm s hs).le, by have := p.t7; omega, by have := p.w7; omega⟩, (Row.of_owns h.gs.row).mono (Nat.zero_le _), hl⟩, p.t7⟩
set_option maxRecDepth 100000 in
set_option maxHeartbeats 1000000 in
theorem lw0 (v : Value) (w0 : World) : T3 Try.prog (fun a w => (IsW w0 w) ∧ Fr 168 [(0, v)] a) (sel [0] lwB) (fun a w => (IsW w0 w) ∧ Fr 168 [(0, v)] a) No 9 No := by
  refine T3.leaf ?_
  rintro Q JS JX JT K hS hK hX hE hT hR a w ⟨hw, ⟨fr, rfl, q0, _⟩⟩
  obtain rfl : w = w0 := hw
  rw [fr_lwB, show fr 0 = _ from q0]
  clear q0
  conv => arg 2; whnf
  go_wp2_with fail
  refine Met.intro (hS _ _ ?_)
  exact ⟨rfl, Fr.of _ rfl ⟨rfl, trivial⟩⟩

set_option maxRecDepth 100000 in
set_option maxHeartbeats 1000000 in
theorem lw1 (v : Value) (n : Nat) (zs : List Int) (w0 : World) (h : SRow w0 v n zs w0.heap.size) : T3 Try.prog (fun a w => (IsW w0 w) ∧ Fr 168 [(0, v)] a) (sel [1, 0] lwB) (fun a w => (Str w0.heap.size w 0 ∧ Below w0.heap.size w0 w ∧ w0.heap.size + 1 ≤ w.heap.size) ∧ Fr 168 [(3, .pointer (some ⟨w0.heap.size, 0, none⟩))] a) No 9 No := by
  refine T3.leaf ?_
  rintro Q JS JX JT K hS hK hX hE hT hR a w ⟨hw, ⟨fr, rfl, q0, _⟩⟩
  obtain rfl : w = w0 := hw
  have hS0 := str_newL w v n zs 25 h
  obtain ⟨p, c, rfl⟩ : ∃ a c, v = .slice a n c := by
    rcases h with ⟨rfl, a, c, rfl⟩ | ⟨h, _⟩
    · exact ⟨_, _, rfl⟩
    · rcases h.2 with ⟨rfl, rfl⟩ | ⟨b, off, cap, rfl, _⟩
      · exact ⟨_, _, rfl⟩
      · exact ⟨_, _, rfl⟩
  clear h
  rw [fr_lwB, show fr 0 = _ from q0]
  clear q0
  conv => arg 2; whnf
  go_wp2_with fail
  refine Met.intro (hS _ _ ?_)
  exact ⟨⟨hS0, (Below.refl _ _).alloc (Nat.le_refl _) _, by simp⟩, Fr.of _ rfl ⟨rfl, trivial⟩⟩

set_option maxRecDepth 100000 in
set_option maxHeartbeats 1000000 in
theorem lw2 (n₀ : Nat) (w0 : World) : T3 Try.prog (fun a w => (Str n₀ w 0 ∧ Below n₀ w0 w ∧ n₀ + 1 ≤ w.heap.size) ∧ Fr 168 [(3, .pointer (some ⟨n₀, 0, none⟩))] a) (sel [1, 1, 0] lwB) (fun a w => ∃ (B : Nat) (v4 v5 : Value) (ts : List ByteArray) (ws : List Int), (LP ts ws) ∧ (LG n₀ B w0 (11) v4 v5 (.slice none 0 0) ts ws [] w) ∧ Fr 168 [(3, .pointer (some ⟨n₀, 0, none⟩)), (4, v4), (5, v5)] a) No 9 No := by
  refine T3.leaf ?_
  rintro Q JS JX JT K hS hK hX hE hT hR a w ⟨⟨hS_, hbel, hz⟩, ⟨fr, rfl, q3, _⟩⟩
  rw [fr_lwB, show fr 3 = _ from q3]
  clear q3
  conv => arg 2; whnf
  go_wp2_with fail
  refine (lotteries_any n₀ 0 _ hS_ (by decide)).mono ?_
  rintro e w1 ⟨v4, v5, ts, ws, rfl, hl, ho⟩
  have hb1 := below_str hbel ho.d.gr (Nat.le_refl _) (by omega)
  have hG : LG n₀ w1.heap.size w0 11 v4 v5 (.slice none 0 0) ts ws [] w1 := ⟨GenS.nil hb1 ho.d.str, Held.of_owns ho.rt ho.n0, Held.of_owns ho.rw ho.n0⟩
  have hP : LP ts ws := ⟨by have := hl.t; omega, by have := hl.w1; omega, ho.sm⟩
  obtain ⟨p4, c4, hv4⟩ := (Row.of_owns ho.rt).shape
  subst hv4
  obtain ⟨p5, c5, hv5⟩ := (Row.of_owns ho.rw).shape
  subst hv5
  clear ho hl
  go_wp2_with fail
  refine Met.intro (hS _ _ ?_)
  exact ⟨_, _, _, ts, ws, hP, hG, Fr.of _ rfl ⟨rfl, rfl, rfl, trivial⟩⟩

set_option maxRecDepth 100000 in
set_option maxHeartbeats 1000000 in
theorem lw3 (n₀ : Nat) (w0 : World) (B : Nat) (v4 v5 : Value) (ts : List ByteArray) (ws : List Int) (hp : LP ts ws) : T3 Try.prog (fun a w => (LG n₀ B w0 (11) v4 v5 (.slice none 0 0) ts ws [] w) ∧ Fr 168 [(3, .pointer (some ⟨n₀, 0, none⟩)), (4, v4), (5, v5)] a) (sel [1, 1, 1, 0] lwB) (fun a w => ∃ (top : Int) (team : ByteArray) (place : Int), (-1 ≤ top ∧ top ≤ 5) ∧ (LG n₀ B w0 (14) v4 v5 (.slice none 0 0) ts ws [] w) ∧ Fr 168 [(3, .pointer (some ⟨n₀, 0, none⟩)), (4, v4), (5, v5), (6, .int .i64 top), (7, .string team), (8, .int .i64 place)] a) No 9 No := by
  refine T3.leaf ?_
  rintro Q JS JX JT K hS hK hX hE hT hR a w ⟨hW, ⟨fr, rfl, q3, q4, q5, _⟩⟩
  obtain ⟨p4, c4, hv4⟩ := hW.ht.slice
  subst hv4
  obtain ⟨p5, c5, hv5⟩ := hW.hw.slice
  subst hv5
  rw [fr_lwB, show fr 3 = _ from q3, show fr 4 = _ from q4, show fr 5 = _ from q5]
  clear q3 q4 q5
  conv => arg 2; whnf
  go_wp2_with fail
  refine (pick_lit n₀ 11 [0, 1, 2, 3, 4, 5, -1] 7 _ _ _ rfl rfl (by decide) (by decide) hW.gs.str (by decide)).mono ?_
  rintro e w1 ⟨top, rfl, hm, hd⟩
  have h1 := hW.drawn hd
  clear hd
  have htb : -1 ≤ top ∧ top ≤ 5 := by simp at hm; omega
  clear hm
  go_wp2_with fail
  refine (some_lit n₀ 12 [⟨#[116, 102]⟩, ⟨#[116, 101]⟩, ⟨#[116, 100]⟩, ⟨#[122, 122]⟩] 4 _ _ _ rfl rfl (by decide) (by decide) h1.gs.str (by decide)).mono ?_
  rintro e w2 ⟨team, rfl, _, hd⟩
  have h2 := h1.drawn hd
  clear hd
  go_wp2_with fail
  refine (pick_lit n₀ 13 [1, 1, 2, 3, 0, 7] 6 _ _ _ rfl rfl (by decide) (by decide) h2.gs.str (by decide)).mono ?_
  rintro e w3 ⟨place, rfl, _, hd⟩
  have h3 := h2.drawn hd
  clear hd
  go_wp2_with fail
  refine Met.intro (hS _ _ ?_)
  exact ⟨top, team, place, htb, h3, Fr.of _ rfl ⟨rfl, rfl, rfl, rfl, rfl, rfl, trivial⟩⟩

set_option maxRecDepth 100000 in
set_option maxHeartbeats 1000000 in
theorem lw4 (n₀ : Nat) (w0 : World) (B : Nat) (v4 v5 : Value) (ts : List ByteArray) (ws : List Int) (hp : LP ts ws) (top : Int) (team : ByteArray) (place : Int) (ht : -1 ≤ top ∧ top ≤ 5) : T3 Try.prog (fun a w => (LG n₀ B w0 (14) v4 v5 (.slice none 0 0) ts ws [] w) ∧ Fr 168 [(3, .pointer (some ⟨n₀, 0, none⟩)), (4, v4), (5, v5), (6, .int .i64 top), (7, .string team), (8, .int .i64 place)] a) (sel [1, 1, 1, 1, 0] lwB) (fun a w => (LG n₀ B w0 (14) v4 v5 (.slice none 0 0) ts ws [] w) ∧ Fr 168 [(3, .pointer (some ⟨n₀, 0, none⟩)), (4, v4), (5, v5), (6, .int .i64 top), (7, .string team), (8, .int .i64 place), (9, .slice none 0 0)] a) No 9 No := by
  refine T3.leaf ?_
  rintro Q JS JX JT K hS hK hX hE hT hR a w ⟨hW, ⟨fr, rfl, q3, q4, q5, q6, q7, q8, _⟩⟩
  obtain ⟨p4, c4, hv4⟩ := hW.ht.slice
  subst hv4
  obtain ⟨p5, c5, hv5⟩ := hW.hw.slice
  subst hv5
  rw [fr_lwB, show fr 3 = _ from q3, show fr 4 = _ from q4, show fr 5 = _ from q5, show fr 6 = _ from q6, show fr 7 = _ from q7, show fr 8 = _ from q8]
  clear q3 q4 q5 q6 q7 q8
  conv => arg 2; whnf
  go_wp2_with fail
  refine Met.intro (hS _ _ ?_)
  exact ⟨hW, Fr.of _ rfl ⟨rfl, rfl, rfl, rfl, rfl, rfl, rfl, trivial⟩⟩

set_option maxRecDepth 100000 in
set_option maxHeartbeats 1000000 in
theorem lw5 (n₀ : Nat) (w0 : World) (B : Nat) (v4 v5 : Value) (ts : List ByteArray) (ws : List Int) (hp : LP ts ws) (top : Int) (team : ByteArray) (place : Int) (ht : -1 ≤ top ∧ top ≤ 5) : T3 Try.prog (fun a w => (LG n₀ B w0 (14) v4 v5 (.slice none 0 0) ts ws [] w) ∧ Fr 168 [(3, .pointer (some ⟨n₀, 0, none⟩)), (4, v4), (5, v5), (6, .int .i64 top), (7, .string team), (8, .int .i64 place), (9, .slice none 0 0)] a) (sel [1, 1, 1, 1, 1, 0, 0] lwB) (fun a w => ∃ mx : Int, (0 ≤ mx ∧ mx ≤ 5) ∧ ((0 ≤ (0 : Int) ∧ (0 : Int) ≤ mx) ∧ ∃ (v9 : Value) (lots : List Int), ((lots.length : Int) ≤ 0) ∧ (LG n₀ B w0 (14 + (0 : Int).toNat) v4 v5 v9 ts ws lots w) ∧ Fr 168 [(3, .pointer (some ⟨n₀, 0, none⟩)), (4, v4), (5, v5), (6, .int .i64 top), (7, .string team), (8, .int .i64 place), (9, v9), (40, .int .i64 mx), (41, .int .i64 0)] a)) No 9 No := by
  refine T3.leaf ?_
  rintro Q JS JX JT K hS hK hX hE hT hR a w ⟨hW, ⟨fr, rfl, q3, q4, q5, q6, q7, q8, q9, _⟩⟩
  obtain ⟨p4, c4, hv4⟩ := hW.ht.slice
  subst hv4
  obtain ⟨p5, c5, hv5⟩ := hW.hw.slice
  subst hv5
  rw [fr_lwB, show fr 3 = _ from q3, show fr 4 = _ from q4, show fr 5 = _ from q5, show fr 6 = _ from q6, show fr 7 = _ from q7, show fr 8 = _ from q8, show fr 9 = _ from q9]
  clear q3 q4 q5 q6 q7 q8 q9
  conv => arg 2; whnf
  go_wp2_with fail
  refine Met.intro (hS _ _ ?_)
  exact ⟨max 0 top, by omega, ⟨by omega, by omega⟩, _, [], by simp, hW, Fr.of _ rfl ⟨rfl, rfl, rfl, rfl, rfl, rfl, rfl, rfl, rfl, trivial⟩⟩

set_option maxRecDepth 100000 in
set_option maxHeartbeats 1000000 in
theorem lw7 (n₀ : Nat) (w0 : World) (B : Nat) (v4 v5 : Value) (ts : List ByteArray) (ws : List Int) (hp : LP ts ws) (top : Int) (team : ByteArray) (place : Int) (ht : -1 ≤ top ∧ top ≤ 5) (mx : Int) (hmx : 0 ≤ mx ∧ mx ≤ 5) (k : Int) : T3 Try.prog (fun a w => ∃ (v9 : Value) (lots : List Int), ((0 ≤ k ∧ k < mx) ∧ (lots.length : Int) ≤ k) ∧ (LG n₀ B w0 (14 + (k : Int).toNat) v4 v5 v9 ts ws lots w) ∧ Fr 168 [(3, .pointer (some ⟨n₀, 0, none⟩)), (4, v4), (5, v5), (6, .int .i64 top), (7, .string team), (8, .int .i64 place), (9, v9), (40, .int .i64 mx), (41, .int .i64 k)] a) (sel [1, 1, 1, 1, 1, 0, 1, 4, 4, 1, 1, 0, 4] lwB) (fun a w => ∃ (v9 : Value) (lots : List Int), ((0 ≤ k ∧ k < mx) ∧ (lots.length : Int) ≤ k + 1) ∧ (LG n₀ B w0 (14 + ((k + 1) : Int).toNat) v4 v5 v9 ts ws lots w) ∧ Fr 168 [(3, .pointer (some ⟨n₀, 0, none⟩)), (4, v4), (5, v5), (6, .int .i64 top), (7, .string team), (8, .int .i64 place), (9, v9), (40, .int .i64 mx), (41, .int .i64 k)] a) No 9 No := by
  refine T3.leaf ?_
  rintro Q JS JX JT K hS hK hX hE hT hR a w ⟨v9, lots, hpre, hW, ⟨fr, rfl, q3, q4, q5, q6, q7, q8, q9, q40, q41, _⟩⟩
  have hpp := Lib.hid hpre
  obtain ⟨⟨hk0, hk1⟩, hll⟩ := hpre
  have hE := el_intL
  obtain ⟨p9, c9, hv9⟩ := hW.gs.slice
  subst hv9
  obtain ⟨p4, c4, hv4⟩ := hW.ht.slice
  subst hv4
  obtain ⟨p5, c5, hv5⟩ := hW.hw.slice
  subst hv5
  rw [fr_lwB, show fr 3 = _ from q3, show fr 4 = _ from q4, show fr 5 = _ from q5, show fr 6 = _ from q6, show fr 7 = _ from q7, show fr 8 = _ from q8, show fr 9 = _ from q9, show fr 40 = _ from q40, show fr 41 = _ from q41]
  clear q3 q4 q5 q6 q7 q8 q9 q40 q41
  conv => arg 2; whnf
  go_wp2_with fail
  refine (range_any n₀ (14 + k.toNat) 0 5000 w (by decide) (by decide) (by decide) (by decide) hW.gs.str (by omega)).mono ?_
  rintro e w1 ⟨x, rfl, _, _, _, h4, h5⟩
  have h1 := hW.drawn ⟨h4, h5⟩
  have hs1 := h1.gs.hs
  clear h4 h5
  go_wp2_with (at_builtin; refine app_law rfl _ _ _ rfl hE (h1.gs.row.alloc _) rfl [.int .i64 x] rfl rfl (cells_new w1 #[_] _) (by simp [Value.oneCell']) (by omega) (by simp; omega) ?_; intro v' w2 hown2 hgr2; have h2 := (h1.alloc _).app hown2 hgr2)
  refine Met.intro (hS _ _ ?_)
  exact ⟨_, _, ⟨hpp.out.1, by have := hpp.out.2; simp; omega⟩, h2.mono (by omega), Fr.of _ rfl ⟨rfl, rfl, rfl, rfl, rfl, rfl, rfl, rfl, rfl, trivial⟩⟩

set_option maxRecDepth 100000 in
set_option maxHeartbeats 1000000 in
theorem lw7b (n₀ : Nat) (w0 : World) (B : Nat) (v4 v5 : Value) (ts : List ByteArray) (ws : List Int) (hp : LP ts ws) (top : Int) (team : ByteArray) (place : Int) (ht : -1 ≤ top ∧ top ≤ 5) (mx : Int) (hmx : 0 ≤ mx ∧ mx ≤ 5) (k : Int) : T3 Try.prog (fun a w => ∃ (v9 : Value) (lots : List Int), ((0 ≤ k ∧ k < mx) ∧ (lots.length : Int) ≤ k) ∧ (LG n₀ B w0 (14 + (k : Int).toNat) v4 v5 v9 ts ws lots w) ∧ Fr 168 [(3, .pointer (some ⟨n₀, 0, none⟩)), (4, v4), (5, v5), (6, .int .i64 top), (7, .string team), (8, .int .i64 place), (9, v9), (40, .int .i64 mx), (41, .int .i64 k)] a) (sel [1, 1, 1, 1, 1, 0, 1, 4, 4, 1, 1, 0] lwB) (fun a w => ∃ (v9 : Value) (lots : List Int), ((0 ≤ k ∧ k < mx) ∧ (lots.length : Int) ≤ k + 1) ∧ (LG n₀ B w0 (14 + ((k + 1) : Int).toNat) v4 v5 v9 ts ws lots w) ∧ Fr 168 [(3, .pointer (some ⟨n₀, 0, none⟩)), (4, v4), (5, v5), (6, .int .i64 top), (7, .string team), (8, .int .i64 place), (9, v9), (40, .int .i64 mx), (41, .int .i64 k)] a) No 9 No := T3.block (id' := 1) (c := (sel [1, 1, 1, 1, 1, 0, 1, 4, 4, 1, 1, 0, 4] lwB)) (by decide) (lw7 n₀ w0 B v4 v5 ts ws hp top team place ht mx hmx k)

def lwAI (n₀ : Nat) (w0 : World) (B : Nat) (v4 v5 : Value) (ts : List ByteArray) (ws : List Int) (hp : LP ts ws) (top : Int) (team : ByteArray) (place : Int) (ht : -1 ≤ top ∧ top ≤ 5) (mx : Int) (hmx : 0 ≤ mx ∧ mx ≤ 5) (k : Int) (a : Act) (w : World) : Prop := (0 ≤ k ∧ k ≤ mx) ∧ ∃ (v9 : Value) (lots : List Int), ((lots.length : Int) ≤ k) ∧ (LG n₀ B w0 (14 + (k : Int).toNat) v4 v5 v9 ts ws lots w) ∧ Fr 168 [(3, .pointer (some ⟨n₀, 0, none⟩)), (4, v4), (5, v5), (6, .int .i64 top), (7, .string team), (8, .int .i64 place), (9, v9), (40, .int .i64 mx), (41, .int .i64 k)] a
set_option maxRecDepth 100000 in
set_option maxHeartbeats 1000000 in
theorem lwAt (n₀ : Nat) (w0 : World) (B : Nat) (v4 v5 : Value) (ts : List ByteArray) (ws : List Int) (hp : LP ts ws) (top : Int) (team : ByteArray) (place : Int) (ht : -1 ≤ top ∧ top ≤ 5) (mx : Int) (hmx : 0 ≤ mx ∧ mx ≤ 5) (k : Int) : T3 Try.prog (fun a w => lwAI n₀ w0 B v4 v5 ts ws hp top team place ht mx hmx k a w) (sel [1, 1, 1, 1, 1, 0, 1, 4, 4, 0] lwB) (fun a w => ∃ q, Fr 168 ((42, .bool q) :: [(41, .int .i64 k)]) a ∧ ((q = true ↔ k < mx) ∧ lwAI n₀ w0 B v4 v5 ts ws hp top team place ht mx hmx k a w)) No 9 No := by
  refine T3.leaf ?_
  rintro Q JS JX JT K hS hK hX hE hT hR a w ⟨hk, v9, lots, hpre, hW, ⟨fr, rfl, q3, q4, q5, q6, q7, q8, q9, q40, q41, _⟩⟩
  have hm5 := hmx.2
  rw [fr_lwB, show fr 3 = _ from q3, show fr 4 = _ from q4, show fr 5 = _ from q5, show fr 6 = _ from q6, show fr 7 = _ from q7, show fr 8 = _ from q8, show fr 9 = _ from q9, show fr 40 = _ from q40, show fr 41 = _ from q41]
  clear q3 q4 q5 q6 q7 q8 q9 q40 q41
  conv => arg 2; whnf
  by_cases hlt : k < mx
  · go_wp2_with fail
    refine Met.intro (hS _ _ ?_)
    exact ⟨true, Fr.of _ rfl ⟨rfl, rfl, trivial⟩, ⟨fun _ => hlt, fun _ => rfl⟩, hk, v9, lots, hpre, hW, Fr.of _ rfl ⟨rfl, rfl, rfl, rfl, rfl, rfl, rfl, rfl, rfl, trivial⟩⟩
  · have hpb : decide (k < (mx)) = false := by simp; omega
    go_wp2_with fail
    refine Met.intro (hS _ _ ?_)
    exact ⟨false, Fr.of _ rfl ⟨rfl, rfl, trivial⟩, ⟨(fun h => by cases h), fun h => absurd h (by omega)⟩, hk, v9, lots, hpre, hW, Fr.of _ rfl ⟨rfl, rfl, rfl, rfl, rfl, rfl, rfl, rfl, rfl, trivial⟩⟩

set_option maxRecDepth 100000 in
set_option maxHeartbeats 1000000 in
theorem lwAn (n₀ : Nat) (w0 : World) (B : Nat) (v4 v5 : Value) (ts : List ByteArray) (ws : List Int) (hp : LP ts ws) (top : Int) (team : ByteArray) (place : Int) (ht : -1 ≤ top ∧ top ≤ 5) (mx : Int) (hmx : 0 ≤ mx ∧ mx ≤ 5) (k : Int) : T3 Try.prog (fun a w => (0 ≤ k ∧ k < mx) ∧ ∃ (v9 : Value) (lots : List Int), ((lots.length : Int) ≤ (k + 1)) ∧ (LG n₀ B w0 (14 + ((k + 1) : Int).toNat) v4 v5 v9 ts ws lots w) ∧ Fr 168 [(3, .pointer (some ⟨n₀, 0, none⟩)), (4, v4), (5, v5), (6, .int .i64 top), (7, .string team), (8, .int .i64 place), (9, v9), (40, .int .i64 mx), (41, .int .i64 k)] a) (sel [1, 1, 1, 1, 1, 0, 1, 4, 4, 1, 1, 1] lwB) (fun a w => lwAI n₀ w0 B v4 v5 ts ws hp top team place ht mx hmx (k + 1) a w) No 9 No := by
  refine T3.leaf ?_
  rintro Q JS JX JT K hS hK hX hE hT hR a w ⟨hk, v9, lots, hpre, hW, ⟨fr, rfl, q3, q4, q5, q6, q7, q8, q9, q40, q41, _⟩⟩
  obtain ⟨hk0, hk1⟩ := hk
  have hm5 := hmx.2
  rw [fr_lwB, show fr 3 = _ from q3, show fr 4 = _ from q4, show fr 5 = _ from q5, show fr 6 = _ from q6, show fr 7 = _ from q7, show fr 8 = _ from q8, show fr 9 = _ from q9, show fr 40 = _ from q40, show fr 41 = _ from q41]
  clear q3 q4 q5 q6 q7 q8 q9 q40 q41
  conv => arg 2; whnf
  go_wp2_with fail
  refine Met.intro (hS _ _ ?_)
  exact ⟨⟨by omega, by omega⟩, v9, lots, hpre, hW, Fr.of _ rfl ⟨rfl, rfl, rfl, rfl, rfl, rfl, rfl, rfl, rfl, trivial⟩⟩

set_option maxRecDepth 100000 in
set_option maxHeartbeats 1000000 in
theorem lwAloop (n₀ : Nat) (w0 : World) (B : Nat) (v4 v5 : Value) (ts : List ByteArray) (ws : List Int) (hp : LP ts ws) (top : Int) (team : ByteArray) (place : Int) (ht : -1 ≤ top ∧ top ≤ 5) (mx : Int) (hmx : 0 ≤ mx ∧ mx ≤ 5) : T3 Try.prog (fun a w => lwAI n₀ w0 B v4 v5 ts ws hp top team place ht mx hmx 0 a w) (sel [1, 1, 1, 1, 1, 0, 1] lwB) (fun a w => ∃ (v9 : Value) (lots : List Int), ((lots.length : Int) ≤ 5) ∧ (LG n₀ B w0 (19) v4 v5 v9 ts ws lots w) ∧ Fr 168 [(3, .pointer (some ⟨n₀, 0, none⟩)), (4, v4), (5, v5), (6, .int .i64 top), (7, .string team), (8, .int .i64 place), (9, v9)] a) No 9 No := by
  refine T3.loop (c := (sel [1, 1, 1, 1, 1, 0, 1, 4, 4] lwB)) (fun ng_ a w => ∃ k : Int, (ng_ : Int) = mx - k ∧ lwAI n₀ w0 B v4 v5 ts ws hp top team place ht mx hmx k a w) (fun a w h => ⟨(mx : Int).toNat, 0, by have := h.1.2; omega, h⟩) (fun ng_ => T3.ex fun k => T3.pure fun hng_ => ?_)
  refine T3.seq (s := (sel [1, 1, 1, 1, 1, 0, 1, 4, 4, 0] lwB)) (c := (sel [1, 1, 1, 1, 1, 0, 1, 4, 4, 1] lwB)) ((lwAt n₀ w0 B v4 v5 ts ws hp top team place ht mx hmx k).noX) ?_
  refine T3.seq (s := (sel [1, 1, 1, 1, 1, 0, 1, 4, 4, 1, 0] lwB)) (c := (sel [1, 1, 1, 1, 1, 0, 1, 4, 4, 1, 1] lwB)) (S := fun a w => (0 ≤ k ∧ k < mx) ∧ ∃ (v9 : Value) (lots : List Int), ((lots.length : Int) ≤ k) ∧ (LG n₀ B w0 (14 + (k : Int).toNat) v4 v5 v9 ts ws lots w) ∧ Fr 168 [(3, .pointer (some ⟨n₀, 0, none⟩)), (4, v4), (5, v5), (6, .int .i64 top), (7, .string team), (8, .int .i64 place), (9, v9), (40, .int .i64 mx), (41, .int .i64 k)] a) ?_ (T3.seq (s := (sel [1, 1, 1, 1, 1, 0, 1, 4, 4, 1, 1, 0] lwB)) (c := (sel [1, 1, 1, 1, 1, 0, 1, 4, 4, 1, 1, 1] lwB)) (S := fun a w => (0 ≤ k ∧ k < mx) ∧ ∃ (v9 : Value) (lots : List Int), ((lots.length : Int) ≤ (k + 1)) ∧ (LG n₀ B w0 (14 + ((k + 1) : Int).toNat) v4 v5 v9 ts ws lots w) ∧ Fr 168 [(3, .pointer (some ⟨n₀, 0, none⟩)), (4, v4), (5, v5), (6, .int .i64 top), (7, .string team), (8, .int .i64 place), (9, v9), (40, .int .i64 mx), (41, .int .i64 k)] a) (T3.noX (T3.mono (R' := fun a w => (0 ≤ k ∧ k < mx) ∧ ∃ (v9 : Value) (lots : List Int), ((lots.length : Int) ≤ k) ∧ (LG n₀ B w0 (14 + (k : Int).toNat) v4 v5 v9 ts ws lots w) ∧ Fr 168 [(3, .pointer (some ⟨n₀, 0, none⟩)), (4, v4), (5, v5), (6, .int .i64 top), (7, .string team), (8, .int .i64 place), (9, v9), (40, .int .i64 mx), (41, .int .i64 k)] a) (S' := fun a w => (0 ≤ k ∧ k < mx) ∧ ∃ (v9 : Value) (lots : List Int), ((lots.length : Int) ≤ (k + 1)) ∧ (LG n₀ B w0 (14 + ((k + 1) : Int).toNat) v4 v5 v9 ts ws lots w) ∧ Fr 168 [(3, .pointer (some ⟨n₀, 0, none⟩)), (4, v4), (5, v5), (6, .int .i64 top), (7, .string team), (8, .int .i64 place), (9, v9), (40, .int .i64 mx), (41, .int .i64 k)] a) (lw7b n₀ w0 B v4 v5 ts ws hp top team place ht mx hmx k) (fun a w ⟨hk, v9, lots, hp, hI⟩ => ⟨v9, lots, ⟨hk, hp⟩, hI⟩) (fun a w ⟨v9, lots, ⟨hk, hp⟩, hI⟩ => ⟨hk, v9, lots, hp, hI⟩) (fun _ _ q => q) (fun _ _ q => q))) ?_)
  · refine T3.cond (o := .tmp 42) (x := .skip) (y := .exit 0) (fun a w => k < mx ∧ lwAI n₀ w0 B v4 v5 ts ws hp top team place ht mx hmx k a w) (fun a w => ¬ k < mx ∧ lwAI n₀ w0 B v4 v5 ts ws hp top team place ht mx hmx k a w) ?_ (T3.skip ?_) (T3.exit ?_)
    · rintro a w ⟨q, hF, hq, hI⟩
      have he := hF.eval 42 (by decide) (v := .bool q) (by simp)
      cases q
      · exact .inr ⟨he, (fun h => by have := hq.2 h; cases this), hI⟩
      · exact .inl ⟨he, hq.1 rfl, hI⟩
    · rintro a w ⟨hlt, hk, hI⟩
      exact ⟨⟨hk.1, hlt⟩, hI⟩
    · rintro a w ⟨hlt, hk, hI⟩
      obtain rfl : k = mx := by omega
      obtain ⟨v9, lots, hl, hW, hF⟩ := hI
      exact ⟨v9, lots, by omega, hW.mono (by omega), hF.sub (by simp)⟩
  · intro a w hx
    have hk := hx.1
    exact (((lwAn n₀ w0 B v4 v5 ts ws hp top team place ht mx hmx k).noX).post (fun a w q => ⟨ng_ - 1, by omega, k + 1, by omega, q⟩)) a w hx
set_option maxRecDepth 100000 in
set_option maxHeartbeats 1000000 in
theorem lw9 (n₀ : Nat) (w0 : World) (B : Nat) (v4 v5 : Value) (ts : List ByteArray) (ws : List Int) (hp : LP ts ws) (top : Int) (team : ByteArray) (place : Int) (ht : -1 ≤ top ∧ top ≤ 5) (v9 : Value) (lots : List Int) (hl : (lots.length : Int) ≤ 5) : T3 Try.prog (fun a w => (LG n₀ B w0 (19) v4 v5 v9 ts ws lots w) ∧ Fr 168 [(3, .pointer (some ⟨n₀, 0, none⟩)), (4, v4), (5, v5), (6, .int .i64 top), (7, .string team), (8, .int .i64 place), (9, v9)] a) (sel [1, 1, 1, 1, 1, 1, 0, 0] lwB) (fun a w => ∃ q, Fr 168 ((50, .bool q) :: [(3, .pointer (some ⟨n₀, 0, none⟩)), (4, v4), (5, v5), (6, .int .i64 top), (7, .string team), (8, .int .i64 place), (9, v9)]) a ∧ (True ∧ LG n₀ B w0 (20) v4 v5 v9 ts ws lots w)) No 9 No := by
  refine T3.leaf ?_
  rintro Q JS JX JT K hS hK hX hE hT hR a w ⟨hW, ⟨fr, rfl, q3, q4, q5, q6, q7, q8, q9, _⟩⟩
  obtain ⟨p9, c9, hv9⟩ := hW.gs.slice
  subst hv9
  obtain ⟨p4, c4, hv4⟩ := hW.ht.slice
  subst hv4
  obtain ⟨p5, c5, hv5⟩ := hW.hw.slice
  subst hv5
  rw [fr_lwB, show fr 3 = _ from q3, show fr 4 = _ from q4, show fr 5 = _ from q5, show fr 6 = _ from q6, show fr 7 = _ from q7, show fr 8 = _ from q8, show fr 9 = _ from q9]
  clear q3 q4 q5 q6 q7 q8 q9
  conv => arg 2; whnf
  go_wp2_with fail
  refine (flip_d n₀ 19 12 w hW.gs.str rfl (by decide)).mono ?_
  rintro e w1 ⟨q, rfl, hd⟩
  have h1 := hW.drawn hd
  clear hd
  go_wp2_with fail
  refine Met.intro (hS _ _ ?_)
  exact ⟨q, Fr.of _ rfl ⟨rfl, rfl, rfl, rfl, rfl, rfl, rfl, rfl, trivial⟩, trivial, h1⟩

set_option maxRecDepth 100000 in
set_option maxHeartbeats 1000000 in
theorem lw10 (n₀ : Nat) (w0 : World) (B : Nat) (v4 v5 : Value) (ts : List ByteArray) (ws : List Int) (hp : LP ts ws) (top : Int) (team : ByteArray) (place : Int) (ht : -1 ≤ top ∧ top ≤ 5) (v9 : Value) (lots : List Int) (hl : (lots.length : Int) ≤ 5) : T3 Try.prog (fun a w => (LG n₀ B w0 (20) v4 v5 v9 ts ws lots w) ∧ Fr 168 [(3, .pointer (some ⟨n₀, 0, none⟩)), (4, v4), (5, v5), (6, .int .i64 top), (7, .string team), (8, .int .i64 place), (9, v9)] a) (sel [1, 1, 1, 1, 1, 1, 0, 1, 2] lwB) (fun a w => ∃ (v9 : Value) (lots : List Int), (LF n₀ w0 v4 v5 v9 ts ws lots w) ∧ Fr 168 [(4, v4), (5, v5), (6, .int .i64 top), (7, .string team), (8, .int .i64 place), (9, v9)] a) No 9 No := by
  refine T3.leaf ?_
  rintro Q JS JX JT K hS hK hX hE hT hR a w ⟨hW, ⟨fr, rfl, q3, q4, q5, q6, q7, q8, q9, _⟩⟩
  have hE := el_intL
  obtain ⟨p9, c9, hv9⟩ := hW.gs.slice
  subst hv9
  obtain ⟨p4, c4, hv4⟩ := hW.ht.slice
  subst hv4
  obtain ⟨p5, c5, hv5⟩ := hW.hw.slice
  subst hv5
  rw [fr_lwB, show fr 3 = _ from q3, show fr 4 = _ from q4, show fr 5 = _ from q5, show fr 6 = _ from q6, show fr 7 = _ from q7, show fr 8 = _ from q8, show fr 9 = _ from q9]
  clear q3 q4 q5 q6 q7 q8 q9
  conv => arg 2; whnf
  go_wp2_with fail
  refine (odd_d n₀ 20 0 9 w (by decide) (by decide) (by decide) hW.gs.str (by decide)).mono ?_
  rintro e w1 ⟨x, rfl, _, hd⟩
  have h1 := hW.drawn hd
  have hs1 := h1.gs.hs
  clear hd
  go_wp2_with (at_builtin; refine app_law rfl _ _ _ rfl hE (h1.gs.row.alloc _) rfl [.int .i64 x] rfl rfl (cells_new w1 #[_] _) (by simp [Value.oneCell']) (by omega) (by simp; omega) ?_; intro v' w2 hown2 hgr2; have h2 := (h1.alloc _).app hown2 hgr2)
  refine Met.intro (hS _ _ ?_)
  exact ⟨_, _, h2.done hp (by simp; omega), Fr.of _ rfl ⟨rfl, rfl, rfl, rfl, rfl, rfl, trivial⟩⟩

/-- All that the stream hands out. -/
theorem lw_data (n₀ : Nat) (w0 : World) (T : Rel) (hrest : T3 Try.prog (fun a w => ∃ (v4 v5 v9 : Value) (ts : List ByteArray) (ws lots : List Int) (team : ByteArray) (place top : Int), (LF n₀ w0 v4 v5 v9 ts ws lots w) ∧ Fr 168 [(4, v4), (5, v5), (6, .int .i64 top), (7, .string team), (8, .int .i64 place), (9, v9)] a) (sel [1, 1, 1, 1, 1, 1, 1] lwB) No No 9 T) : T3 Try.prog (fun a w => (Str n₀ w 0 ∧ Below n₀ w0 w ∧ n₀ + 1 ≤ w.heap.size) ∧ Fr 168 [(3, .pointer (some ⟨n₀, 0, none⟩))] a) (sel [1, 1] lwB) No No 9 T := by
  refine T3.seq (s := (sel [1, 1, 0] lwB)) (c := (sel [1, 1, 1] lwB)) (T3.noT (lw2 n₀ w0)) ?_
  refine T3.ex fun B => T3.ex fun v4 => T3.ex fun v5 => T3.ex fun ts => T3.ex fun ws => T3.pure fun hp => ?_
  refine T3.seq (s := (sel [1, 1, 1, 0] lwB)) (c := (sel [1, 1, 1, 1] lwB)) (T3.noT (lw3 n₀ w0 B v4 v5 ts ws hp)) ?_
  refine T3.ex fun top => T3.ex fun team => T3.ex fun place => T3.pure fun ht => ?_
  refine T3.seq (s := (sel [1, 1, 1, 1, 0] lwB)) (c := (sel [1, 1, 1, 1, 1] lwB)) (T3.noT (lw4 n₀ w0 B v4 v5 ts ws hp top team place ht)) ?_
  refine T3.seq (s := (sel [1, 1, 1, 1, 1, 0] lwB)) (c := (sel [1, 1, 1, 1, 1, 1] lwB)) (T3.noT (T3.seq (s := (sel [1, 1, 1, 1, 1, 0, 0] lwB)) (c := (sel [1, 1, 1, 1, 1, 0, 1] lwB)) (lw5 n₀ w0 B v4 v5 ts ws hp top team place ht) (T3.ex fun mx => T3.pure fun hmx => lwAloop n₀ w0 B v4 v5 ts ws hp top team place ht mx hmx))) ?_
  refine T3.ex fun v9 => T3.ex fun lots => T3.pure fun hl => ?_
  refine T3.seq (s := (sel [1, 1, 1, 1, 1, 1, 0] lwB)) (c := (sel [1, 1, 1, 1, 1, 1, 1] lwB)) (S := (fun a w => ∃ (v4 v5 v9 : Value) (ts : List ByteArray) (ws lots : List Int) (team : ByteArray) (place top : Int), (LF n₀ w0 v4 v5 v9 ts ws lots w) ∧ Fr 168 [(4, v4), (5, v5), (6, .int .i64 top), (7, .string team), (8, .int .i64 place), (9, v9)] a)) (T3.noT ?_) hrest
  refine T3.test (s := (sel [1, 1, 1, 1, 1, 1, 0, 0] lwB)) (x := (sel [1, 1, 1, 1, 1, 1, 0, 1, 2] lwB)) (y := .skip) (C := fun _ => True) (W := fun w => LG n₀ B w0 (20) v4 v5 v9 ts ws lots w) (by decide) (lw9 n₀ w0 B v4 v5 ts ws hp top team place ht v9 lots hl) ?_ (T3.skip ?_)
  · refine (lw10 n₀ w0 B v4 v5 ts ws hp top team place ht v9 lots hl).mono ?_ ?_ (fun _ _ q => q) (fun _ _ q => q)
    · rintro a w ⟨hF, _, hW⟩
      exact ⟨hW, hF.tail⟩
    · rintro a w ⟨v9, lots, hW, hF⟩
      exact ⟨v4, v5, v9, ts, ws, lots, team, place, top, hW, hF⟩
  · rintro a w ⟨_, hW, hF⟩
    exact ⟨v4, v5, v9, ts, ws, lots, team, place, top, hW.done hp (by omega), hF.sub (by simp)⟩
end Go.Proofs.Ytkdimgghljklmaa
/-
  The law LotsDrawn: its walk from end to end. No condition.
-/
set_option linter.unusedVariables false
namespace Go.Proofs.Ytkdimgghljklmaa
open Go.RowKit Go.Bw
theorem equal_strL (v1 v2 : Value) (n : Nat) (l : List ByteArray) (b1 b2 : Nat) (w : World) (h1 : Row w b1 1 v1 n (cellsOf encSt l)) (h2 : Row w b2 1 v2 n (cellsOf encSt l)) :
    Calls Try.prog 23 #[v1, v2] w fun e w' => e = .returned (.bool true) ∧ Below w.heap.size w w' := by
  obtain ⟨hl, hc⟩ := h1.els encSt_length (by decide)
  subst hl
  obtain ⟨_, hc2⟩ := h2.els encSt_length (by decide)
  obtain ⟨p2, c2, hv2⟩ := h2.shape
  rcases hc with ⟨rfl, h0⟩ | ⟨b, off, cap, rfl, _, hbs, hnc, hcm, hcell⟩
  · subst hv2
    rw [h0]
    refine (Try.slices_Equal_string_empty none p2 0 0 c2 w (by decide)).mono ?_
    rintro e w' ⟨rfl, rfl⟩
    exact ⟨rfl, Below.refl _ _⟩
  · rcases hc2 with ⟨rfl, h0⟩ | ⟨b', off', cap', rfl, _, hbs', hnc', hcm', hcell'⟩
    · rw [h0]
      refine (Try.slices_Equal_string_empty _ none cap 0 0 w (by decide)).mono ?_
      rintro e w' ⟨rfl, rfl⟩
      exact ⟨rfl, Below.refl _ _⟩
    · refine (Try.slices_Equal_string b off l.length cap b' off' l.length cap' l l w (Nat.le_refl _) (Nat.le_refl _) (by omega) (by omega) (fun j hj => ?_) (fun j hj => ?_)).mono ?_
      · have := hcell (j : Int) (by omega) (by omega) 0 _ rfl
        rw [geta_eq l j (by omega) (by omega)] at this
        simpa [List.getD, hj] using this
      · have := hcell' (j : Int) (by omega) (by omega) 0 _ rfl
        rw [geta_eq l j (by omega) (by omega)] at this
        simpa [List.getD, hj] using this
      · rintro e w' ⟨rfl, q, rfl⟩
        exact ⟨by simp, below_drewN (Below.refl _ _) q⟩
set_option maxRecDepth 100000 in
set_option maxHeartbeats 1000000 in
theorem teamFault_any (v : Value) (n : Nat) (zs : List ByteArray) (x : ByteArray) (base : Nat) (w : World) (h : Row w base 1 v n (cellsOf encSt zs)) :
    Calls Try.prog 17 #[v, .string x] w fun e w' => e = .returned (.int .i64 (if hasS zs x = false then 8 else 0)) ∧ w = w' := by
  have HC := Lib.hid (contains_str v n zs x base w h)
  obtain ⟨p, c, hv⟩ := h.shape
  subst hv
  clear h
  generalize hasS zs x = q at *
  cases q
  all_goals
    go_enter Try.func17, Try.ntmps17
    go_wp2_with first
      | (go_at_call 46; refine HC.out.mono ?_; rintro e w1 ⟨rfl, rfl⟩)
      | (go_at_call 18; refine (when_any _ 8 _).mono ?_; rintro e w2 ⟨rfl, rfl⟩)
    go_ret
    exact ⟨rfl, rfl⟩
theorem fault_eq (ts : List ByteArray) (ws : List Int) (top : Int) : errL [weightsE ts ws, topR ts.length top] = topE ts ws top := by
  rw [topE_eq]
  unfold errL errL errL
  split
  · rfl
  · by_cases h : topR ts.length top = 0 <;> simp [h]
def placeE (nt : Nat) (place : Int) : Int := if outB place 1 nt = true then 1 else 0
theorem chance_eq (ts : List ByteArray) (ws : List Int) (team : ByteArray) (place top : Int) : errL [topE ts ws top, (if hasS ts team = false then 8 else 0), placeE ts.length place] = chanceE ts ws team place top := by
  unfold chanceE placeE errL errL errL errL
  by_cases h1 : topE ts ws top = 0 <;> by_cases h2 : hasS ts team = false <;> by_cases h3 : outB place 1 ts.length = true <;> simp [h1, h2, h3]
/-- Two numbers in a block. -/
structure A2 (w : World) (g : Nat) (x y : Int) : Prop where
  c0 : w.cell? ⟨g, 0, none⟩ = some (.int .i64 x)
  c1 : w.cell? ⟨g, 1, none⟩ = some (.int .i64 y)
theorem A2.below {w w' : World} {g : Nat} {x y : Int} (h : A2 w g x y) (b : Below w.heap.size w w') : A2 w' g x y :=
  ⟨(b.cell (p := ⟨g, 0, none⟩) (World.block_lt_of_cell? w _ h.c0)).trans h.c0, (b.cell (p := ⟨g, 1, none⟩) (World.block_lt_of_cell? w _ h.c1)).trans h.c1⟩
theorem A2.new (w : World) (x y : Int) (e : TypeId) : A2 (w.alloc (.cells #[.int .i64 x, .int .i64 y] e)) w.heap.size x y := ⟨cells_new w _ e 0 _ rfl, cells_new w _ e 1 _ rfl⟩
/-- What the program has answered. -/
structure LA (n₀ : Nat) (w0 : World) (v4 v5 v9 : Value) (ts : List ByteArray) (ws lots : List Int) (team : ByteArray) (place top : Int) (v10 : Value) (g12 : Nat) (w : World) : Prop where
  lf : LF n₀ w0 v4 v5 v9 ts ws lots w
  r10 : Row w 0 1 v10 (drawL ts ws lots top).length (cellsOf encSt (drawL ts ws lots top))
  m12 : A2 w g12 (chN ts ws team place top) (chD ts ws team place top)
theorem LA.below {n₀ : Nat} {w0 w w' : World} {v4 v5 v9 : Value} {ts : List ByteArray} {ws lots : List Int} {team : ByteArray} {place top : Int} {v10 : Value} {g12 : Nat} (h : LA n₀ w0 v4 v5 v9 ts ws lots team place top v10 g12 w) (b : Below w.heap.size w w') : LA n₀ w0 v4 v5 v9 ts ws lots team place top v10 g12 w' :=
  ⟨h.lf.below b, h.r10.below b, h.m12.below b⟩
structure LB (n₀ : Nat) (w0 : World) (v4 v5 v9 : Value) (ts : List ByteArray) (ws lots : List Int) (team : ByteArray) (place top : Int) (v10 : Value) (g12 : Nat) (v19 : Value) (w : World) : Prop where
  la : LA n₀ w0 v4 v5 v9 ts ws lots team place top v10 g12 w
  r19 : Row w 0 1 v19 (drawL ts ws lots top).length (cellsOf encSt (drawL ts ws lots top))
theorem LB.below {n₀ : Nat} {w0 w w' : World} {v4 v5 v9 : Value} {ts : List ByteArray} {ws lots : List Int} {team : ByteArray} {place top : Int} {v10 : Value} {g12 : Nat} {v19 : Value} (h : LB n₀ w0 v4 v5 v9 ts ws lots team place top v10 g12 v19 w) (b : Below w.heap.size w w') : LB n₀ w0 v4 v5 v9 ts ws lots team place top v10 g12 v19 w' :=
  ⟨h.la.below b, h.r19.below b⟩
set_option maxRecDepth 100000 in
set_option maxHeartbeats 1000000 in
theorem lw11 (n₀ : Nat) (w0 : World) (v4 v5 v9 : Value) (ts : List ByteArray) (ws lots : List Int) (team : ByteArray) (place top : Int) : T3 Try.prog (fun a w => (LF n₀ w0 v4 v5 v9 ts ws lots w) ∧ Fr 168 [(4, v4), (5, v5), (6, .int .i64 top), (7, .string team), (8, .int .i64 place), (9, v9)] a) (sel [1, 1, 1, 1, 1, 1, 1, 0] lwB) (fun a w => ∃ (v10 : Value), (LF n₀ w0 v4 v5 v9 ts ws lots w ∧ Row w 0 1 v10 (drawL ts ws lots top).length (cellsOf encSt (drawL ts ws lots top))) ∧ Fr 168 [(4, v4), (5, v5), (6, .int .i64 top), (7, .string team), (8, .int .i64 place), (9, v9), (10, v10), (11, .int .i64 (drawE ts ws lots top))] a) No 9 No := by
  refine T3.leaf ?_
  rintro Q JS JX JT K hS hK hX hE hT hR a w ⟨hW, ⟨fr, rfl, q4, q5, q6, q7, q8, q9, _⟩⟩
  have HP := Lib.hid (draw_prog w v4 v5 v9 ts ws lots top hW.dh)
  have HW := Lib.hid hW
  obtain ⟨p4, c4, hv4⟩ := hW.dh.h.t.shape
  subst hv4
  obtain ⟨p5, c5, hv5⟩ := hW.dh.h.w.shape
  subst hv5
  obtain ⟨p9, c9, hv9⟩ := hW.dh.l.shape
  subst hv9
  clear hW
  generalize drawE ts ws lots top = eD at *
  generalize drawL ts ws lots top = LL at *
  rw [fr_lwB, show fr 4 = _ from q4, show fr 5 = _ from q5, show fr 6 = _ from q6, show fr 7 = _ from q7, show fr 8 = _ from q8, show fr 9 = _ from q9]
  clear q4 q5 q6 q7 q8 q9
  conv => arg 2; whnf
  go_wp2_with fail
  refine HP.out.mono ?_
  rintro e w1 ⟨v10, rfl, ho, hb⟩
  have h1 := HW.out.below hb
  obtain ⟨p10, c10, hv10⟩ := (Row.of_owns ho).shape
  subst hv10
  have HO := Lib.hid ((Row.of_owns ho).mono (Nat.zero_le _))
  have H1 := Lib.hid h1
  clear ho hb h1
  go_wp2_with fail
  refine Met.intro (hS _ _ ?_)
  exact ⟨_, ⟨H1.out, HO.out⟩, Fr.of _ rfl ⟨rfl, rfl, rfl, rfl, rfl, rfl, rfl, rfl, trivial⟩⟩

set_option maxRecDepth 100000 in
set_option maxHeartbeats 1000000 in
theorem lw12 (n₀ : Nat) (w0 : World) (v4 v5 v9 : Value) (ts : List ByteArray) (ws lots : List Int) (team : ByteArray) (place top : Int) (v10 : Value) : T3 Try.prog (fun a w => (LF n₀ w0 v4 v5 v9 ts ws lots w ∧ Row w 0 1 v10 (drawL ts ws lots top).length (cellsOf encSt (drawL ts ws lots top))) ∧ Fr 168 [(4, v4), (5, v5), (6, .int .i64 top), (7, .string team), (8, .int .i64 place), (9, v9), (10, v10), (11, .int .i64 (drawE ts ws lots top))] a) (sel [1, 1, 1, 1, 1, 1, 1, 1, 0] lwB) (fun a w => ∃ (g12 : Nat), (LA n₀ w0 v4 v5 v9 ts ws lots team place top v10 g12 w) ∧ Fr 168 [(4, v4), (5, v5), (6, .int .i64 top), (7, .string team), (8, .int .i64 place), (9, v9), (10, v10), (11, .int .i64 (drawE ts ws lots top)), (12, .pointer (some ⟨g12, 0, none⟩)), (13, .int .i64 (chanceE ts ws team place top))] a) No 9 No := by
  refine T3.leaf ?_
  rintro Q JS JX JT K hS hK hX hE hT hR a w ⟨⟨hW, hr⟩, ⟨fr, rfl, q4, q5, q6, q7, q8, q9, q10, q11, _⟩⟩
  have HP := Lib.hid (chance_prog w v4 v5 ts ws team place top hW.dh.h)
  have HW := Lib.hid hW
  have HR := Lib.hid hr
  have HLA := Lib.hid (fun (g12 : Nat) (w' : World) (a : LF n₀ w0 v4 v5 v9 ts ws lots w') (b : Row w' 0 1 v10 (drawL ts ws lots top).length (cellsOf encSt (drawL ts ws lots top))) (c : A2 w' g12 (chN ts ws team place top) (chD ts ws team place top)) => LA.mk (team := team) (place := place) a b c)
  obtain ⟨p10, c10, hv10⟩ := hr.shape
  subst hv10
  obtain ⟨p4, c4, hv4⟩ := hW.dh.h.t.shape
  subst hv4
  obtain ⟨p5, c5, hv5⟩ := hW.dh.h.w.shape
  subst hv5
  obtain ⟨p9, c9, hv9⟩ := hW.dh.l.shape
  subst hv9
  clear hW hr
  have HM := Lib.hid (fun w' => A2.new w' (chN ts ws team place top) (chD ts ws team place top) 37)
  generalize drawE ts ws lots top = eD at *
  generalize hLL : drawL ts ws lots top = LL at *
  generalize chanceE ts ws team place top = eC at *
  generalize hN : chN ts ws team place top = N at *
  generalize hDD : chD ts ws team place top = DD at *
  clear hLL hN hDD
  rw [fr_lwB, show fr 4 = _ from q4, show fr 5 = _ from q5, show fr 6 = _ from q6, show fr 7 = _ from q7, show fr 8 = _ from q8, show fr 9 = _ from q9, show fr 10 = _ from q10, show fr 11 = _ from q11]
  clear q4 q5 q6 q7 q8 q9 q10 q11
  conv => arg 2; whnf
  go_wp2_with fail
  refine HP.out.mono ?_
  rintro e w1 ⟨rfl, hb⟩
  have H1 := Lib.hid (HW.out.below hb)
  have HR1 := Lib.hid (HR.out.below hb)
  clear hb
  go_wp2_with fail
  have hb2 := (Below.refl w1.heap.size w1).alloc (Nat.le_refl _) (.cells #[.int .i64 N, .int .i64 DD] 37)
  refine Met.intro (hS _ _ ?_)
  exact ⟨_, HLA.out _ _ (H1.out.below hb2) (HR1.out.below hb2) (HM.out w1), Fr.of _ rfl ⟨rfl, rfl, rfl, rfl, rfl, rfl, rfl, rfl, rfl, rfl, trivial⟩⟩

set_option maxRecDepth 100000 in
set_option maxHeartbeats 1000000 in
theorem lw13 (n₀ : Nat) (w0 : World) (v4 v5 v9 : Value) (ts : List ByteArray) (ws lots : List Int) (team : ByteArray) (place top : Int) (v10 : Value) (g12 : Nat) : T3 Try.prog (fun a w => (LA n₀ w0 v4 v5 v9 ts ws lots team place top v10 g12 w) ∧ Fr 168 [(4, v4), (5, v5), (6, .int .i64 top), (7, .string team), (8, .int .i64 place), (9, v9), (10, v10), (11, .int .i64 (drawE ts ws lots top)), (12, .pointer (some ⟨g12, 0, none⟩)), (13, .int .i64 (chanceE ts ws team place top))] a) (sel [1, 1, 1, 1, 1, 1, 1, 1, 1, 0] lwB) (fun a w => (LA n₀ w0 v4 v5 v9 ts ws lots team place top v10 g12 w) ∧ Fr 168 [(4, v4), (5, v5), (6, .int .i64 top), (7, .string team), (8, .int .i64 place), (9, v9), (10, v10), (11, .int .i64 (drawE ts ws lots top)), (12, .pointer (some ⟨g12, 0, none⟩)), (13, .int .i64 (chanceE ts ws team place top)), (14, .int .i64 (fallL ts ws top)), (15, .int .i64 (topE ts ws top))] a) No 9 No := by
  refine T3.leaf ?_
  rintro Q JS JX JT K hS hK hX hE hT hR a w ⟨hW, ⟨fr, rfl, q4, q5, q6, q7, q8, q9, q10, q11, q12, q13, _⟩⟩
  have HP := Lib.hid (fall_prog w v4 v5 ts ws top hW.lf.dh.h)
  have HW := Lib.hid hW
  obtain ⟨p4, c4, hv4⟩ := hW.lf.dh.h.t.shape
  subst hv4
  obtain ⟨p5, c5, hv5⟩ := hW.lf.dh.h.w.shape
  subst hv5
  obtain ⟨p9, c9, hv9⟩ := hW.lf.dh.l.shape
  subst hv9
  clear hW
  generalize drawE ts ws lots top = eD at *
  generalize chanceE ts ws team place top = eC at *
  generalize topE ts ws top = eT at *
  generalize fallL ts ws top = fL at *
  rw [fr_lwB, show fr 4 = _ from q4, show fr 5 = _ from q5, show fr 6 = _ from q6, show fr 7 = _ from q7, show fr 8 = _ from q8, show fr 9 = _ from q9, show fr 10 = _ from q10, show fr 11 = _ from q11, show fr 12 = _ from q12, show fr 13 = _ from q13]
  clear q4 q5 q6 q7 q8 q9 q10 q11 q12 q13
  conv => arg 2; whnf
  go_wp2_with fail
  refine HP.out.mono ?_
  rintro e w1 ⟨rfl, rfl⟩
  go_wp2_with fail
  refine Met.intro (hS _ _ ?_)
  exact ⟨HW.out, Fr.of _ rfl ⟨rfl, rfl, rfl, rfl, rfl, rfl, rfl, rfl, rfl, rfl, rfl, rfl, trivial⟩⟩

set_option maxRecDepth 100000 in
set_option maxHeartbeats 1000000 in
theorem lw14 (n₀ : Nat) (w0 : World) (v4 v5 v9 : Value) (ts : List ByteArray) (ws lots : List Int) (team : ByteArray) (place top : Int) (v10 : Value) (g12 : Nat) : T3 Try.prog (fun a w => (LA n₀ w0 v4 v5 v9 ts ws lots team place top v10 g12 w) ∧ Fr 168 [(4, v4), (5, v5), (6, .int .i64 top), (7, .string team), (8, .int .i64 place), (9, v9), (10, v10), (11, .int .i64 (drawE ts ws lots top)), (12, .pointer (some ⟨g12, 0, none⟩)), (13, .int .i64 (chanceE ts ws team place top)), (14, .int .i64 (fallL ts ws top)), (15, .int .i64 (topE ts ws top))] a) (sel [1, 1, 1, 1, 1, 1, 1, 1, 1, 1, 0] lwB) (fun a w => (LA n₀ w0 v4 v5 v9 ts ws lots team place top v10 g12 w) ∧ Fr 168 [(4, v4), (5, v5), (6, .int .i64 top), (7, .string team), (8, .int .i64 place), (9, v9), (10, v10), (11, .int .i64 (drawE ts ws lots top)), (12, .pointer (some ⟨g12, 0, none⟩)), (13, .int .i64 (chanceE ts ws team place top)), (14, .int .i64 (fallL ts ws top)), (15, .int .i64 (topE ts ws top)), (16, .int .i64 (topE ts ws top))] a) No 9 No := by
  refine T3.leaf ?_
  rintro Q JS JX JT K hS hK hX hE hT hR a w ⟨hW, ⟨fr, rfl, q4, q5, q6, q7, q8, q9, q10, q11, q12, q13, q14, q15, _⟩⟩
  have HP := Lib.hid (weights_ref w v4 v5 ts ws hW.lf.dh.h)
  have HQ := Lib.hid (top_ref w v4 ts.length 1 0 (cellsOf encSt ts) top hW.lf.dh.h.t)
  have HF := Lib.hid (fault_eq ts ws top)
  have HW := Lib.hid hW
  obtain ⟨p4, c4, hv4⟩ := hW.lf.dh.h.t.shape
  subst hv4
  obtain ⟨p5, c5, hv5⟩ := hW.lf.dh.h.w.shape
  subst hv5
  obtain ⟨p9, c9, hv9⟩ := hW.lf.dh.l.shape
  subst hv9
  clear hW
  generalize drawE ts ws lots top = eD at *
  generalize chanceE ts ws team place top = eC at *
  generalize topE ts ws top = eT at *
  generalize fallL ts ws top = fL at *
  generalize weightsE ts ws = eW at *
  generalize topR ts.length top = eR at *
  rw [fr_lwB, show fr 4 = _ from q4, show fr 5 = _ from q5, show fr 6 = _ from q6, show fr 7 = _ from q7, show fr 8 = _ from q8, show fr 9 = _ from q9, show fr 10 = _ from q10, show fr 11 = _ from q11, show fr 12 = _ from q12, show fr 13 = _ from q13, show fr 14 = _ from q14, show fr 15 = _ from q15]
  clear q4 q5 q6 q7 q8 q9 q10 q11 q12 q13 q14 q15
  conv => arg 2; whnf
  go_wp2_with fail
  refine HP.out.mono ?_
  rintro e w1 ⟨rfl, rfl⟩
  go_wp2_with fail
  refine HQ.out.mono ?_
  rintro e w1 ⟨rfl, rfl⟩
  go_wp2_with fail
  refine (errs_lit [eW, eR] 2 _ _ w rfl rfl (by decide)).mono ?_
  rintro e w2 ⟨rfl, hb⟩
  rw [HF.out]
  have H2 := Lib.hid (HW.out.below hb)
  clear hb
  go_wp2_with fail
  refine Met.intro (hS _ _ ?_)
  exact ⟨H2.out, Fr.of _ rfl ⟨rfl, rfl, rfl, rfl, rfl, rfl, rfl, rfl, rfl, rfl, rfl, rfl, rfl, trivial⟩⟩

set_option maxRecDepth 100000 in
set_option maxHeartbeats 1000000 in
theorem lw15 (n₀ : Nat) (w0 : World) (v4 v5 v9 : Value) (ts : List ByteArray) (ws lots : List Int) (team : ByteArray) (place top : Int) (v10 : Value) (g12 : Nat) : T3 Try.prog (fun a w => (LA n₀ w0 v4 v5 v9 ts ws lots team place top v10 g12 w) ∧ Fr 168 [(4, v4), (5, v5), (6, .int .i64 top), (7, .string team), (8, .int .i64 place), (9, v9), (10, v10), (11, .int .i64 (drawE ts ws lots top)), (12, .pointer (some ⟨g12, 0, none⟩)), (13, .int .i64 (chanceE ts ws team place top)), (14, .int .i64 (fallL ts ws top)), (15, .int .i64 (topE ts ws top)), (16, .int .i64 (topE ts ws top))] a) (sel [1, 1, 1, 1, 1, 1, 1, 1, 1, 1, 1, 0] lwB) (fun a w => (LA n₀ w0 v4 v5 v9 ts ws lots team place top v10 g12 w) ∧ Fr 168 [(4, v4), (5, v5), (6, .int .i64 top), (7, .string team), (8, .int .i64 place), (9, v9), (10, v10), (11, .int .i64 (drawE ts ws lots top)), (12, .pointer (some ⟨g12, 0, none⟩)), (13, .int .i64 (chanceE ts ws team place top)), (14, .int .i64 (fallL ts ws top)), (15, .int .i64 (topE ts ws top)), (16, .int .i64 (topE ts ws top)), (17, .int .i64 (topE ts ws top)), (18, .int .i64 (chanceE ts ws team place top))] a) No 9 No := by
  refine T3.leaf ?_
  rintro Q JS JX JT K hS hK hX hE hT hR a w ⟨hW, ⟨fr, rfl, q4, q5, q6, q7, q8, q9, q10, q11, q12, q13, q14, q15, q16, _⟩⟩
  have HT := Lib.hid (teamFault_any v4 ts.length ts team 0 w hW.lf.dh.h.t)
  have HF := Lib.hid (chance_eq ts ws team place top)
  have HW := Lib.hid hW
  obtain ⟨p4, c4, hv4⟩ := hW.lf.dh.h.t.shape
  subst hv4
  obtain ⟨p5, c5, hv5⟩ := hW.lf.dh.h.w.shape
  subst hv5
  obtain ⟨p9, c9, hv9⟩ := hW.lf.dh.l.shape
  subst hv9
  clear hW
  generalize (if hasS ts team = false then (8 : Int) else 0) = eF at *
  generalize drawE ts ws lots top = eD at *
  generalize chanceE ts ws team place top = eC at *
  generalize topE ts ws top = eT at *
  generalize fallL ts ws top = fL at *
  by_cases h1 : place < 1
  · have HX := Lib.hid (fun w => when_any true 1 w)
    have hX : (if (true : Bool) = true then (1 : Int) else 0) = placeE ts.length place := by unfold placeE outB; simp [h1]
    rw [hX] at HX
    clear hX
    generalize placeE ts.length place = eP at *
    rw [fr_lwB, show fr 4 = _ from q4, show fr 5 = _ from q5, show fr 6 = _ from q6, show fr 7 = _ from q7, show fr 8 = _ from q8, show fr 9 = _ from q9, show fr 10 = _ from q10, show fr 11 = _ from q11, show fr 12 = _ from q12, show fr 13 = _ from q13, show fr 14 = _ from q14, show fr 15 = _ from q15, show fr 16 = _ from q16]
    clear q4 q5 q6 q7 q8 q9 q10 q11 q12 q13 q14 q15 q16
    conv => arg 2; whnf
    go_wp2_with fail
    refine HT.out.mono ?_
    rintro e w1 ⟨rfl, rfl⟩
    go_wp2_with fail
    refine (HX.out w).mono ?_
    rintro e w1 ⟨rfl, rfl⟩
    go_wp2_with fail
    refine (errs_lit [eT, eF, eP] 3 _ _ w rfl rfl (by decide)).mono ?_
    rintro e w2 ⟨rfl, hb⟩
    rw [HF.out]
    have H2 := Lib.hid (HW.out.below hb)
    clear hb
    go_wp2_with fail
    refine Met.intro (hS _ _ ?_)
    exact ⟨H2.out, Fr.of _ rfl ⟨rfl, rfl, rfl, rfl, rfl, rfl, rfl, rfl, rfl, rfl, rfl, rfl, rfl, rfl, rfl, trivial⟩⟩
  · have HX := Lib.hid (fun w => when_any (decide ((ts.length : Int) < place)) 1 w)
    have hX : (if decide ((ts.length : Int) < place) = true then (1 : Int) else 0) = placeE ts.length place := by unfold placeE outB; simp [h1]
    rw [hX] at HX
    clear hX
    have h1b : decide (place < 1) = false := by simp [h1]
    generalize placeE ts.length place = eP at *
    rw [fr_lwB, show fr 4 = _ from q4, show fr 5 = _ from q5, show fr 6 = _ from q6, show fr 7 = _ from q7, show fr 8 = _ from q8, show fr 9 = _ from q9, show fr 10 = _ from q10, show fr 11 = _ from q11, show fr 12 = _ from q12, show fr 13 = _ from q13, show fr 14 = _ from q14, show fr 15 = _ from q15, show fr 16 = _ from q16]
    clear q4 q5 q6 q7 q8 q9 q10 q11 q12 q13 q14 q15 q16
    conv => arg 2; whnf
    go_wp2_with fail
    refine HT.out.mono ?_
    rintro e w1 ⟨rfl, rfl⟩
    go_wp2_with fail
    refine (HX.out w).mono ?_
    rintro e w1 ⟨rfl, rfl⟩
    go_wp2_with fail
    refine (errs_lit [eT, eF, eP] 3 _ _ w rfl rfl (by decide)).mono ?_
    rintro e w2 ⟨rfl, hb⟩
    rw [HF.out]
    have H2 := Lib.hid (HW.out.below hb)
    clear hb
    go_wp2_with fail
    refine Met.intro (hS _ _ ?_)
    exact ⟨H2.out, Fr.of _ rfl ⟨rfl, rfl, rfl, rfl, rfl, rfl, rfl, rfl, rfl, rfl, rfl, rfl, rfl, rfl, rfl, trivial⟩⟩

set_option maxRecDepth 100000 in
set_option maxHeartbeats 1000000 in
theorem lw16 (n₀ : Nat) (w0 : World) (v4 v5 v9 : Value) (ts : List ByteArray) (ws lots : List Int) (team : ByteArray) (place top : Int) (v10 : Value) (g12 : Nat) : T3 Try.prog (fun a w => (LA n₀ w0 v4 v5 v9 ts ws lots team place top v10 g12 w) ∧ Fr 168 [(4, v4), (5, v5), (6, .int .i64 top), (7, .string team), (8, .int .i64 place), (9, v9), (10, v10), (11, .int .i64 (drawE ts ws lots top)), (12, .pointer (some ⟨g12, 0, none⟩)), (13, .int .i64 (chanceE ts ws team place top)), (14, .int .i64 (fallL ts ws top)), (15, .int .i64 (topE ts ws top)), (16, .int .i64 (topE ts ws top)), (17, .int .i64 (topE ts ws top)), (18, .int .i64 (chanceE ts ws team place top))] a) (sel [1, 1, 1, 1, 1, 1, 1, 1, 1, 1, 1, 1, 0] lwB) (fun a w => (LA n₀ w0 v4 v5 v9 ts ws lots team place top v10 g12 w) ∧ Fr 168 [(4, v4), (5, v5), (6, .int .i64 top), (7, .string team), (8, .int .i64 place), (9, v9), (10, v10), (11, .int .i64 (drawE ts ws lots top)), (12, .pointer (some ⟨g12, 0, none⟩)), (13, .int .i64 (chanceE ts ws team place top)), (14, .int .i64 (fallL ts ws top)), (15, .int .i64 (topE ts ws top)), (16, .int .i64 (topE ts ws top)), (17, .int .i64 (topE ts ws top)), (18, .int .i64 (chanceE ts ws team place top)), (19, .slice none 0 0)] a) No 9 No := by
  refine T3.leaf ?_
  rintro Q JS JX JT K hS hK hX hE hT hR a w ⟨hW, ⟨fr, rfl, q4, q5, q6, q7, q8, q9, q10, q11, q12, q13, q14, q15, q16, q17, q18, _⟩⟩
  have HW := Lib.hid hW
  obtain ⟨p4, c4, hv4⟩ := hW.lf.dh.h.t.shape
  subst hv4
  obtain ⟨p5, c5, hv5⟩ := hW.lf.dh.h.w.shape
  subst hv5
  obtain ⟨p9, c9, hv9⟩ := hW.lf.dh.l.shape
  subst hv9
  clear hW
  generalize drawE ts ws lots top = eD at *
  generalize chanceE ts ws team place top = eC at *
  generalize topE ts ws top = eT at *
  generalize fallL ts ws top = fL at *
  rw [fr_lwB, show fr 4 = _ from q4, show fr 5 = _ from q5, show fr 6 = _ from q6, show fr 7 = _ from q7, show fr 8 = _ from q8, show fr 9 = _ from q9, show fr 10 = _ from q10, show fr 11 = _ from q11, show fr 12 = _ from q12, show fr 13 = _ from q13, show fr 14 = _ from q14, show fr 15 = _ from q15, show fr 16 = _ from q16, show fr 17 = _ from q17, show fr 18 = _ from q18]
  clear q4 q5 q6 q7 q8 q9 q10 q11 q12 q13 q14 q15 q16 q17 q18
  conv => arg 2; whnf
  go_wp2_with fail
  refine Met.intro (hS _ _ ?_)
  exact ⟨HW.out, Fr.of _ rfl ⟨rfl, rfl, rfl, rfl, rfl, rfl, rfl, rfl, rfl, rfl, rfl, rfl, rfl, rfl, rfl, rfl, trivial⟩⟩

set_option maxRecDepth 100000 in
set_option maxHeartbeats 1000000 in
theorem lw17 (n₀ : Nat) (w0 : World) (v4 v5 v9 : Value) (ts : List ByteArray) (ws lots : List Int) (team : ByteArray) (place top : Int) (v10 : Value) (g12 : Nat) : T3 Try.prog (fun a w => (LA n₀ w0 v4 v5 v9 ts ws lots team place top v10 g12 w) ∧ Fr 168 [(4, v4), (5, v5), (6, .int .i64 top), (7, .string team), (8, .int .i64 place), (9, v9), (10, v10), (11, .int .i64 (drawE ts ws lots top)), (12, .pointer (some ⟨g12, 0, none⟩)), (13, .int .i64 (chanceE ts ws team place top)), (14, .int .i64 (fallL ts ws top)), (15, .int .i64 (topE ts ws top)), (16, .int .i64 (topE ts ws top)), (17, .int .i64 (topE ts ws top)), (18, .int .i64 (chanceE ts ws team place top)), (19, .slice none 0 0)] a) (sel [1, 1, 1, 1, 1, 1, 1, 1, 1, 1, 1, 1, 1, 0, 0] lwB) (fun a w => ∃ q, Fr 168 ((105, .bool q) :: [(4, v4), (5, v5), (6, .int .i64 top), (7, .string team), (8, .int .i64 place), (9, v9), (10, v10), (11, .int .i64 (drawE ts ws lots top)), (12, .pointer (some ⟨g12, 0, none⟩)), (13, .int .i64 (chanceE ts ws team place top)), (14, .int .i64 (fallL ts ws top)), (15, .int .i64 (topE ts ws top)), (16, .int .i64 (topE ts ws top)), (17, .int .i64 (topE ts ws top)), (18, .int .i64 (chanceE ts ws team place top)), (19, .slice none 0 0)]) a ∧ ((q = (topE ts ws top == 0)) ∧ LA n₀ w0 v4 v5 v9 ts ws lots team place top v10 g12 w)) No 9 No := by
  refine T3.leaf ?_
  rintro Q JS JX JT K hS hK hX hE hT hR a w ⟨hW, ⟨fr, rfl, q4, q5, q6, q7, q8, q9, q10, q11, q12, q13, q14, q15, q16, q17, q18, q19, _⟩⟩
  have HW := Lib.hid hW
  obtain ⟨p4, c4, hv4⟩ := hW.lf.dh.h.t.shape
  subst hv4
  obtain ⟨p5, c5, hv5⟩ := hW.lf.dh.h.w.shape
  subst hv5
  obtain ⟨p9, c9, hv9⟩ := hW.lf.dh.l.shape
  subst hv9
  clear hW
  generalize drawE ts ws lots top = eD at *
  generalize chanceE ts ws team place top = eC at *
  generalize topE ts ws top = eT at *
  generalize fallL ts ws top = fL at *
  generalize hq : (eT == 0) = q at *
  rw [fr_lwB, show fr 4 = _ from q4, show fr 5 = _ from q5, show fr 6 = _ from q6, show fr 7 = _ from q7, show fr 8 = _ from q8, show fr 9 = _ from q9, show fr 10 = _ from q10, show fr 11 = _ from q11, show fr 12 = _ from q12, show fr 13 = _ from q13, show fr 14 = _ from q14, show fr 15 = _ from q15, show fr 16 = _ from q16, show fr 17 = _ from q17, show fr 18 = _ from q18, show fr 19 = _ from q19]
  clear q4 q5 q6 q7 q8 q9 q10 q11 q12 q13 q14 q15 q16 q17 q18 q19
  conv => arg 2; whnf
  go_wp2_with fail
  refine Met.intro (hS _ _ ?_)
  exact ⟨_, Fr.of _ rfl ⟨rfl, rfl, rfl, rfl, rfl, rfl, rfl, rfl, rfl, rfl, rfl, rfl, rfl, rfl, rfl, rfl, rfl, trivial⟩, rfl, HW.out⟩

set_option maxRecDepth 100000 in
set_option maxHeartbeats 1000000 in
theorem lw18 (n₀ : Nat) (w0 : World) (v4 v5 v9 : Value) (ts : List ByteArray) (ws lots : List Int) (team : ByteArray) (place top : Int) (v10 : Value) (g12 : Nat) (hTz : topE ts ws top = 0) : T3 Try.prog (fun a w => (LA n₀ w0 v4 v5 v9 ts ws lots team place top v10 g12 w) ∧ Fr 168 [(4, v4), (5, v5), (6, .int .i64 top), (7, .string team), (8, .int .i64 place), (9, v9), (10, v10), (11, .int .i64 (drawE ts ws lots top)), (12, .pointer (some ⟨g12, 0, none⟩)), (13, .int .i64 (chanceE ts ws team place top)), (14, .int .i64 (fallL ts ws top)), (15, .int .i64 (topE ts ws top)), (16, .int .i64 (topE ts ws top)), (17, .int .i64 (topE ts ws top)), (18, .int .i64 (chanceE ts ws team place top)), (19, .slice none 0 0)] a) (sel [1, 1, 1, 1, 1, 1, 1, 1, 1, 1, 1, 1, 1, 0, 1, 2] lwB) (fun a w => ∃ (v19 : Value), (LB n₀ w0 v4 v5 v9 ts ws lots team place top v10 g12 v19 w) ∧ Fr 168 [(4, v4), (5, v5), (6, .int .i64 top), (7, .string team), (8, .int .i64 place), (9, v9), (10, v10), (11, .int .i64 (drawE ts ws lots top)), (12, .pointer (some ⟨g12, 0, none⟩)), (13, .int .i64 (chanceE ts ws team place top)), (14, .int .i64 (fallL ts ws top)), (15, .int .i64 (topE ts ws top)), (16, .int .i64 (topE ts ws top)), (17, .int .i64 (drawE ts ws lots top)), (18, .int .i64 (chanceE ts ws team place top)), (19, v19)] a) No 9 No := by
  refine T3.leaf ?_
  rintro Q JS JX JT K hS hK hX hE hT hR a w ⟨hW, ⟨fr, rfl, q4, q5, q6, q7, q8, q9, q10, q11, q12, q13, q14, q15, q16, q17, q18, q19, _⟩⟩
  have HP := Lib.hid (draw_ref w v4 v5 v9 ts ws lots top hW.lf.dh hTz)
  have HW := Lib.hid hW
  clear hTz
  obtain ⟨p4, c4, hv4⟩ := hW.lf.dh.h.t.shape
  subst hv4
  obtain ⟨p5, c5, hv5⟩ := hW.lf.dh.h.w.shape
  subst hv5
  obtain ⟨p9, c9, hv9⟩ := hW.lf.dh.l.shape
  subst hv9
  clear hW
  have HLB := Lib.hid (fun (v19 : Value) (w' : World) (a : LA n₀ w0 (.slice p4 ts.length c4) (.slice p5 ws.length c5) (.slice p9 lots.length c9) ts ws lots team place top v10 g12 w') (b : Row w' 0 1 v19 (drawL ts ws lots top).length (cellsOf encSt (drawL ts ws lots top))) => LB.mk a b)
  generalize drawL ts ws lots top = LL at *
  generalize drawE ts ws lots top = eD at *
  generalize chanceE ts ws team place top = eC at *
  generalize topE ts ws top = eT at *
  generalize fallL ts ws top = fL at *
  rw [fr_lwB, show fr 4 = _ from q4, show fr 5 = _ from q5, show fr 6 = _ from q6, show fr 7 = _ from q7, show fr 8 = _ from q8, show fr 9 = _ from q9, show fr 10 = _ from q10, show fr 11 = _ from q11, show fr 12 = _ from q12, show fr 13 = _ from q13, show fr 14 = _ from q14, show fr 15 = _ from q15, show fr 16 = _ from q16, show fr 17 = _ from q17, show fr 18 = _ from q18, show fr 19 = _ from q19]
  clear q4 q5 q6 q7 q8 q9 q10 q11 q12 q13 q14 q15 q16 q17 q18 q19
  conv => arg 2; whnf
  go_wp2_with fail
  refine HP.out.mono ?_
  rintro e w1 ⟨v19, rfl, ho, hb⟩
  obtain ⟨p19, c19, hv19⟩ := (Row.of_owns ho).shape
  subst hv19
  have H1 := Lib.hid (HLB.out _ _ (HW.out.below hb) ((Row.of_owns ho).mono (Nat.zero_le _)))
  clear ho hb
  go_wp2_with fail
  refine Met.intro (hS _ _ ?_)
  exact ⟨_, H1.out, Fr.of _ rfl ⟨rfl, rfl, rfl, rfl, rfl, rfl, rfl, rfl, rfl, rfl, rfl, rfl, rfl, rfl, rfl, rfl, trivial⟩⟩

set_option maxRecDepth 100000 in
set_option maxHeartbeats 1000000 in
theorem lw19 (n₀ : Nat) (w0 : World) (v4 v5 v9 : Value) (ts : List ByteArray) (ws lots : List Int) (team : ByteArray) (place top : Int) (v10 : Value) (g12 : Nat) (v19 : Value) : T3 Try.prog (fun a w => (LB n₀ w0 v4 v5 v9 ts ws lots team place top v10 g12 v19 w) ∧ Fr 168 [(4, v4), (5, v5), (6, .int .i64 top), (7, .string team), (8, .int .i64 place), (9, v9), (10, v10), (11, .int .i64 (drawE ts ws lots top)), (12, .pointer (some ⟨g12, 0, none⟩)), (13, .int .i64 (chanceE ts ws team place top)), (14, .int .i64 (fallL ts ws top)), (15, .int .i64 (topE ts ws top)), (16, .int .i64 (topE ts ws top)), (17, .int .i64 (drawE ts ws lots top)), (18, .int .i64 (chanceE ts ws team place top)), (19, v19)] a) (sel [1, 1, 1, 1, 1, 1, 1, 1, 1, 1, 1, 1, 1, 1, 0] lwB) (fun a w => ∃ (W : World) (g20 : Nat), (LB n₀ w0 v4 v5 v9 ts ws lots team place top v10 g12 v19 W ∧ g20 = W.heap.size) ∧ (One W w) ∧ Fr 168 [(4, v4), (5, v5), (6, .int .i64 top), (7, .string team), (8, .int .i64 place), (9, v9), (10, v10), (11, .int .i64 (drawE ts ws lots top)), (12, .pointer (some ⟨g12, 0, none⟩)), (13, .int .i64 (chanceE ts ws team place top)), (14, .int .i64 (fallL ts ws top)), (15, .int .i64 (topE ts ws top)), (16, .int .i64 (topE ts ws top)), (17, .int .i64 (drawE ts ws lots top)), (18, .int .i64 (chanceE ts ws team place top)), (19, v19), (20, .pointer (some ⟨g20, 0, none⟩)), (21, .int .i64 0)] a) No 9 No := by
  refine T3.leaf ?_
  rintro Q JS JX JT K hS hK hX hE hT hR a w ⟨hW, ⟨fr, rfl, q4, q5, q6, q7, q8, q9, q10, q11, q12, q13, q14, q15, q16, q17, q18, q19, _⟩⟩
  have HW := Lib.hid hW
  obtain ⟨p4, c4, hv4⟩ := hW.la.lf.dh.h.t.shape
  subst hv4
  obtain ⟨p5, c5, hv5⟩ := hW.la.lf.dh.h.w.shape
  subst hv5
  obtain ⟨p9, c9, hv9⟩ := hW.la.lf.dh.l.shape
  subst hv9
  clear hW
  generalize drawE ts ws lots top = eD at *
  generalize chanceE ts ws team place top = eC at *
  generalize topE ts ws top = eT at *
  generalize fallL ts ws top = fL at *
  rw [fr_lwB, show fr 4 = _ from q4, show fr 5 = _ from q5, show fr 6 = _ from q6, show fr 7 = _ from q7, show fr 8 = _ from q8, show fr 9 = _ from q9, show fr 10 = _ from q10, show fr 11 = _ from q11, show fr 12 = _ from q12, show fr 13 = _ from q13, show fr 14 = _ from q14, show fr 15 = _ from q15, show fr 16 = _ from q16, show fr 17 = _ from q17, show fr 18 = _ from q18, show fr 19 = _ from q19]
  clear q4 q5 q6 q7 q8 q9 q10 q11 q12 q13 q14 q15 q16 q17 q18 q19
  conv => arg 2; whnf
  go_wp2_with fail
  refine Met.intro (hS _ _ ?_)
  exact ⟨w, _, ⟨HW.out, rfl⟩, One.start w, Fr.of _ rfl ⟨rfl, rfl, rfl, rfl, rfl, rfl, rfl, rfl, rfl, rfl, rfl, rfl, rfl, rfl, rfl, rfl, rfl, rfl, trivial⟩⟩

set_option maxRecDepth 100000 in
set_option maxHeartbeats 1000000 in
theorem lw20 (n₀ : Nat) (w0 : World) (v4 v5 v9 : Value) (ts : List ByteArray) (ws lots : List Int) (team : ByteArray) (place top : Int) (v10 : Value) (g12 : Nat) (v19 : Value) (W : World) (hB : LB n₀ w0 v4 v5 v9 ts ws lots team place top v10 g12 v19 W) : T3 Try.prog (fun a w => (One W w) ∧ Fr 168 [(4, v4), (5, v5), (6, .int .i64 top), (7, .string team), (8, .int .i64 place), (9, v9), (10, v10), (11, .int .i64 (drawE ts ws lots top)), (12, .pointer (some ⟨g12, 0, none⟩)), (13, .int .i64 (chanceE ts ws team place top)), (14, .int .i64 (fallL ts ws top)), (15, .int .i64 (topE ts ws top)), (16, .int .i64 (topE ts ws top)), (17, .int .i64 (drawE ts ws lots top)), (18, .int .i64 (chanceE ts ws team place top)), (19, v19), (20, .pointer (some ⟨W.heap.size, 0, none⟩)), (21, .int .i64 0)] a) (sel [1, 1, 1, 1, 1, 1, 1, 1, 1, 1, 1, 1, 1, 1, 1, 0, 0] lwB) (fun a w => ∃ q, Fr 168 ((116, .bool q) :: [(4, v4), (5, v5), (6, .int .i64 top), (7, .string team), (8, .int .i64 place), (9, v9), (10, v10), (11, .int .i64 (drawE ts ws lots top)), (12, .pointer (some ⟨g12, 0, none⟩)), (13, .int .i64 (chanceE ts ws team place top)), (14, .int .i64 (fallL ts ws top)), (15, .int .i64 (topE ts ws top)), (16, .int .i64 (topE ts ws top)), (17, .int .i64 (drawE ts ws lots top)), (18, .int .i64 (chanceE ts ws team place top)), (19, v19), (20, .pointer (some ⟨W.heap.size, 0, none⟩)), (21, .int .i64 0)]) a ∧ ((q = (chanceE ts ws team place top == 0)) ∧ One W w)) No 9 No := by
  refine T3.leaf ?_
  rintro Q JS JX JT K hS hK hX hE hT hR a w ⟨hW, ⟨fr, rfl, q4, q5, q6, q7, q8, q9, q10, q11, q12, q13, q14, q15, q16, q17, q18, q19, q20, q21, _⟩⟩
  have HW := Lib.hid hW
  clear hW
  obtain ⟨p4, c4, hv4⟩ := hB.la.lf.dh.h.t.shape
  subst hv4
  obtain ⟨p5, c5, hv5⟩ := hB.la.lf.dh.h.w.shape
  subst hv5
  obtain ⟨p9, c9, hv9⟩ := hB.la.lf.dh.l.shape
  subst hv9
  generalize drawE ts ws lots top = eD at *
  generalize chanceE ts ws team place top = eC at *
  generalize topE ts ws top = eT at *
  generalize fallL ts ws top = fL at *
  generalize hq : (eC == 0) = q at *
  rw [fr_lwB, show fr 4 = _ from q4, show fr 5 = _ from q5, show fr 6 = _ from q6, show fr 7 = _ from q7, show fr 8 = _ from q8, show fr 9 = _ from q9, show fr 10 = _ from q10, show fr 11 = _ from q11, show fr 12 = _ from q12, show fr 13 = _ from q13, show fr 14 = _ from q14, show fr 15 = _ from q15, show fr 16 = _ from q16, show fr 17 = _ from q17, show fr 18 = _ from q18, show fr 19 = _ from q19, show fr 20 = _ from q20, show fr 21 = _ from q21]
  clear q4 q5 q6 q7 q8 q9 q10 q11 q12 q13 q14 q15 q16 q17 q18 q19 q20 q21
  conv => arg 2; whnf
  go_wp2_with fail
  refine Met.intro (hS _ _ ?_)
  exact ⟨_, Fr.of _ rfl ⟨rfl, rfl, rfl, rfl, rfl, rfl, rfl, rfl, rfl, rfl, rfl, rfl, rfl, rfl, rfl, rfl, rfl, rfl, rfl, trivial⟩, rfl, HW.out⟩

set_option maxRecDepth 100000 in
set_option maxHeartbeats 1000000 in
theorem lw21 (n₀ : Nat) (w0 : World) (v4 v5 v9 : Value) (ts : List ByteArray) (ws lots : List Int) (team : ByteArray) (place top : Int) (v10 : Value) (g12 : Nat) (v19 : Value) (W : World) (hB : LB n₀ w0 v4 v5 v9 ts ws lots team place top v10 g12 v19 W) (hC : chanceE ts ws team place top = 0) : T3 Try.prog (fun a w => (One W w) ∧ Fr 168 [(4, v4), (5, v5), (6, .int .i64 top), (7, .string team), (8, .int .i64 place), (9, v9), (10, v10), (11, .int .i64 (drawE ts ws lots top)), (12, .pointer (some ⟨g12, 0, none⟩)), (13, .int .i64 (chanceE ts ws team place top)), (14, .int .i64 (fallL ts ws top)), (15, .int .i64 (topE ts ws top)), (16, .int .i64 (topE ts ws top)), (17, .int .i64 (drawE ts ws lots top)), (18, .int .i64 (chanceE ts ws team place top)), (19, v19), (20, .pointer (some ⟨W.heap.size, 0, none⟩)), (21, .int .i64 0)] a) (sel [1, 1, 1, 1, 1, 1, 1, 1, 1, 1, 1, 1, 1, 1, 1, 0, 1, 2] lwB) (fun a w => (RC W w (chN ts ws team place top) (chD ts ws team place top)) ∧ Fr 168 [(4, v4), (5, v5), (6, .int .i64 top), (7, .string team), (8, .int .i64 place), (9, v9), (10, v10), (11, .int .i64 (drawE ts ws lots top)), (12, .pointer (some ⟨g12, 0, none⟩)), (13, .int .i64 (chanceE ts ws team place top)), (14, .int .i64 (fallL ts ws top)), (15, .int .i64 (topE ts ws top)), (16, .int .i64 (topE ts ws top)), (17, .int .i64 (drawE ts ws lots top)), (18, .int .i64 (chanceE ts ws team place top)), (19, v19), (20, .pointer (some ⟨W.heap.size, 0, none⟩)), (21, .int .i64 0)] a) No 9 No := by
  refine T3.leaf ?_
  rintro Q JS JX JT K hS hK hX hE hT hR a w ⟨hW, ⟨fr, rfl, q4, q5, q6, q7, q8, q9, q10, q11, q12, q13, q14, q15, q16, q17, q18, q19, q20, q21, _⟩⟩
  have hbW := hW.rc.bel
  have HP := Lib.hid (chance_ref w v4 v5 ts ws team place top (hB.la.lf.dh.h.below hbW) hC)
  have HW := Lib.hid hW
  clear hC hW hbW
  obtain ⟨p4, c4, hv4⟩ := hB.la.lf.dh.h.t.shape
  subst hv4
  obtain ⟨p5, c5, hv5⟩ := hB.la.lf.dh.h.w.shape
  subst hv5
  obtain ⟨p9, c9, hv9⟩ := hB.la.lf.dh.l.shape
  subst hv9
  generalize drawE ts ws lots top = eD at *
  generalize chanceE ts ws team place top = eC at *
  generalize topE ts ws top = eT at *
  generalize fallL ts ws top = fL at *
  generalize chN ts ws team place top = N at *
  generalize chD ts ws team place top = DD at *
  rw [fr_lwB, show fr 4 = _ from q4, show fr 5 = _ from q5, show fr 6 = _ from q6, show fr 7 = _ from q7, show fr 8 = _ from q8, show fr 9 = _ from q9, show fr 10 = _ from q10, show fr 11 = _ from q11, show fr 12 = _ from q12, show fr 13 = _ from q13, show fr 14 = _ from q14, show fr 15 = _ from q15, show fr 16 = _ from q16, show fr 17 = _ from q17, show fr 18 = _ from q18, show fr 19 = _ from q19, show fr 20 = _ from q20, show fr 21 = _ from q21]
  clear q4 q5 q6 q7 q8 q9 q10 q11 q12 q13 q14 q15 q16 q17 q18 q19 q20 q21
  conv => arg 2; whnf
  go_wp2_with fail
  refine HP.out.mono ?_
  rintro e w1 ⟨rfl, hb⟩
  have h2 := HW.out.below hb
  have c0 := h2.rc.c0
  have c1 := h2.rc.c1
  have f0 := h2.f0
  have f1 := h2.f1
  have HR := Lib.hid (h2.put N DD)
  clear h2 hb HW
  go_wp2_with fail
  refine Met.intro (hS _ _ ?_)
  exact ⟨HR.out, Fr.of _ rfl ⟨rfl, rfl, rfl, rfl, rfl, rfl, rfl, rfl, rfl, rfl, rfl, rfl, rfl, rfl, rfl, rfl, rfl, rfl, trivial⟩⟩

set_option maxRecDepth 100000 in
set_option maxHeartbeats 1000000 in
theorem lw22 (n₀ : Nat) (w0 : World) (v4 v5 v9 : Value) (ts : List ByteArray) (ws lots : List Int) (team : ByteArray) (place top : Int) (v10 : Value) (g12 : Nat) (v19 : Value) (g20 : Nat) : T3 Try.prog (fun a w => (LB n₀ w0 v4 v5 v9 ts ws lots team place top v10 g12 v19 w ∧ A2 w g20 (chN ts ws team place top) (chD ts ws team place top)) ∧ Fr 168 [(4, v4), (5, v5), (6, .int .i64 top), (7, .string team), (8, .int .i64 place), (9, v9), (10, v10), (11, .int .i64 (drawE ts ws lots top)), (12, .pointer (some ⟨g12, 0, none⟩)), (13, .int .i64 (chanceE ts ws team place top)), (14, .int .i64 (fallL ts ws top)), (15, .int .i64 (topE ts ws top)), (16, .int .i64 (topE ts ws top)), (17, .int .i64 (drawE ts ws lots top)), (18, .int .i64 (chanceE ts ws team place top)), (19, v19), (20, .pointer (some ⟨g20, 0, none⟩)), (21, .int .i64 0)] a) (sel [1, 1, 1, 1, 1, 1, 1, 1, 1, 1, 1, 1, 1, 1, 1, 1, 0, 0] lwB) (fun a w => ∃ q, Fr 168 ((124, .bool q) :: [(4, v4), (5, v5), (6, .int .i64 top), (7, .string team), (8, .int .i64 place), (9, v9), (10, v10), (11, .int .i64 (drawE ts ws lots top)), (12, .pointer (some ⟨g12, 0, none⟩)), (13, .int .i64 (chanceE ts ws team place top)), (14, .int .i64 (fallL ts ws top)), (15, .int .i64 (topE ts ws top)), (16, .int .i64 (topE ts ws top)), (17, .int .i64 (drawE ts ws lots top)), (18, .int .i64 (chanceE ts ws team place top)), (19, v19), (20, .pointer (some ⟨g20, 0, none⟩)), (21, .int .i64 0)]) a ∧ ((q = (topE ts ws top == 0)) ∧ LB n₀ w0 v4 v5 v9 ts ws lots team place top v10 g12 v19 w ∧ A2 w g20 (chN ts ws team place top) (chD ts ws team place top))) No 9 No := by
  refine T3.leaf ?_
  rintro Q JS JX JT K hS hK hX hE hT hR a w ⟨hW, ⟨fr, rfl, q4, q5, q6, q7, q8, q9, q10, q11, q12, q13, q14, q15, q16, q17, q18, q19, q20, q21, _⟩⟩
  have HW := Lib.hid hW
  obtain ⟨p4, c4, hv4⟩ := hW.1.la.lf.dh.h.t.shape
  subst hv4
  obtain ⟨p5, c5, hv5⟩ := hW.1.la.lf.dh.h.w.shape
  subst hv5
  obtain ⟨p9, c9, hv9⟩ := hW.1.la.lf.dh.l.shape
  subst hv9
  clear hW
  generalize drawE ts ws lots top = eD at *
  generalize chanceE ts ws team place top = eC at *
  generalize topE ts ws top = eT at *
  generalize fallL ts ws top = fL at *
  generalize chN ts ws team place top = N at *
  generalize chD ts ws team place top = DD at *
  generalize hq : (eT == 0) = q at *
  rw [fr_lwB, show fr 4 = _ from q4, show fr 5 = _ from q5, show fr 6 = _ from q6, show fr 7 = _ from q7, show fr 8 = _ from q8, show fr 9 = _ from q9, show fr 10 = _ from q10, show fr 11 = _ from q11, show fr 12 = _ from q12, show fr 13 = _ from q13, show fr 14 = _ from q14, show fr 15 = _ from q15, show fr 16 = _ from q16, show fr 17 = _ from q17, show fr 18 = _ from q18, show fr 19 = _ from q19, show fr 20 = _ from q20, show fr 21 = _ from q21]
  clear q4 q5 q6 q7 q8 q9 q10 q11 q12 q13 q14 q15 q16 q17 q18 q19 q20 q21
  conv => arg 2; whnf
  go_wp2_with fail
  refine Met.intro (hS _ _ ?_)
  exact ⟨_, Fr.of _ rfl ⟨rfl, rfl, rfl, rfl, rfl, rfl, rfl, rfl, rfl, rfl, rfl, rfl, rfl, rfl, rfl, rfl, rfl, rfl, rfl, trivial⟩, rfl, HW.out⟩

theorem fall_args {ts : List ByteArray} {ws : List Int} {top : Int} (h : topE ts ws top = 0) (h7 : ts.length ≤ 7) : FaH ts.length top ∧ top ≤ ts.length ∧ min top ((ts.length : Int) - 1) = fallL ts ws top := by
  have hw : weightsE ts ws = 0 := by
    refine Decidable.byContradiction fun h0 => h0 ?_
    unfold topE at h
    rwa [if_pos h0] at h
  have ht : topB ts.length top = false := by
    cases hb : topB ts.length top
    · rfl
    · unfold topE at h
      rw [if_neg (by simp [hw]), hb] at h
      cases h
  have g := w_good hw
  unfold topB at ht
  simp at ht
  refine ⟨⟨g.n1, h7, by omega, by omega⟩, by omega, ?_⟩
  unfold fallL
  rw [if_pos h]
set_option maxRecDepth 100000 in
set_option maxHeartbeats 1000000 in
theorem lw23 (n₀ : Nat) (w0 : World) (v4 v5 v9 : Value) (ts : List ByteArray) (ws lots : List Int) (team : ByteArray) (place top : Int) (v10 : Value) (g12 : Nat) (v19 : Value) (g20 : Nat) (hTz : topE ts ws top = 0) : T3 Try.prog (fun a w => (LB n₀ w0 v4 v5 v9 ts ws lots team place top v10 g12 v19 w ∧ A2 w g20 (chN ts ws team place top) (chD ts ws team place top)) ∧ Fr 168 [(4, v4), (5, v5), (6, .int .i64 top), (7, .string team), (8, .int .i64 place), (9, v9), (10, v10), (11, .int .i64 (drawE ts ws lots top)), (12, .pointer (some ⟨g12, 0, none⟩)), (13, .int .i64 (chanceE ts ws team place top)), (14, .int .i64 (fallL ts ws top)), (15, .int .i64 (topE ts ws top)), (16, .int .i64 (topE ts ws top)), (17, .int .i64 (drawE ts ws lots top)), (18, .int .i64 (chanceE ts ws team place top)), (19, v19), (20, .pointer (some ⟨g20, 0, none⟩)), (21, .int .i64 0)] a) (sel [1, 1, 1, 1, 1, 1, 1, 1, 1, 1, 1, 1, 1, 1, 1, 1, 0, 1, 2] lwB) (fun a w => (LB n₀ w0 v4 v5 v9 ts ws lots team place top v10 g12 v19 w ∧ A2 w g20 (chN ts ws team place top) (chD ts ws team place top)) ∧ Fr 168 [(4, v4), (5, v5), (6, .int .i64 top), (7, .string team), (8, .int .i64 place), (9, v9), (10, v10), (11, .int .i64 (drawE ts ws lots top)), (12, .pointer (some ⟨g12, 0, none⟩)), (13, .int .i64 (chanceE ts ws team place top)), (14, .int .i64 (fallL ts ws top)), (15, .int .i64 (topE ts ws top)), (16, .int .i64 (topE ts ws top)), (17, .int .i64 (drawE ts ws lots top)), (18, .int .i64 (chanceE ts ws team place top)), (19, v19), (20, .pointer (some ⟨g20, 0, none⟩)), (21, .int .i64 (fallL ts ws top))] a) No 9 No := by
  refine T3.leaf ?_
  rintro Q JS JX JT K hS hK hX hE hT hR a w ⟨hW, ⟨fr, rfl, q4, q5, q6, q7, q8, q9, q10, q11, q12, q13, q14, q15, q16, q17, q18, q19, q20, q21, _⟩⟩
  obtain ⟨a1, a2, a3⟩ := fall_args hTz hW.1.la.lf.t7
  have HP := Lib.hid (fall_ref w v4 ts.length top 1 0 (cellsOf encSt ts) hW.1.la.lf.dh.h.t a1 a2)
  rw [a3] at HP
  clear a1 a2 a3 hTz
  have HW := Lib.hid hW
  obtain ⟨p4, c4, hv4⟩ := hW.1.la.lf.dh.h.t.shape
  subst hv4
  obtain ⟨p5, c5, hv5⟩ := hW.1.la.lf.dh.h.w.shape
  subst hv5
  obtain ⟨p9, c9, hv9⟩ := hW.1.la.lf.dh.l.shape
  subst hv9
  clear hW
  generalize drawE ts ws lots top = eD at *
  generalize chanceE ts ws team place top = eC at *
  generalize topE ts ws top = eT at *
  generalize fallL ts ws top = fL at *
  generalize chN ts ws team place top = N at *
  generalize chD ts ws team place top = DD at *
  rw [fr_lwB, show fr 4 = _ from q4, show fr 5 = _ from q5, show fr 6 = _ from q6, show fr 7 = _ from q7, show fr 8 = _ from q8, show fr 9 = _ from q9, show fr 10 = _ from q10, show fr 11 = _ from q11, show fr 12 = _ from q12, show fr 13 = _ from q13, show fr 14 = _ from q14, show fr 15 = _ from q15, show fr 16 = _ from q16, show fr 17 = _ from q17, show fr 18 = _ from q18, show fr 19 = _ from q19, show fr 20 = _ from q20, show fr 21 = _ from q21]
  clear q4 q5 q6 q7 q8 q9 q10 q11 q12 q13 q14 q15 q16 q17 q18 q19 q20 q21
  conv => arg 2; whnf
  go_wp2_with fail
  refine HP.out.mono ?_
  rintro e w1 ⟨rfl, rfl⟩
  go_wp2_with fail
  refine Met.intro (hS _ _ ?_)
  exact ⟨HW.out, Fr.of _ rfl ⟨rfl, rfl, rfl, rfl, rfl, rfl, rfl, rfl, rfl, rfl, rfl, rfl, rfl, rfl, rfl, rfl, rfl, rfl, trivial⟩⟩

set_option maxRecDepth 100000 in
set_option maxHeartbeats 2000000 in
theorem lw24 (n₀ : Nat) (w0 : World) (v4 v5 v9 : Value) (ts : List ByteArray) (ws lots : List Int) (team : ByteArray) (place top : Int) (v10 : Value) (g12 : Nat) (v19 : Value) (g20 : Nat) : T3 Try.prog (fun a w => (LB n₀ w0 v4 v5 v9 ts ws lots team place top v10 g12 v19 w ∧ A2 w g20 (chN ts ws team place top) (chD ts ws team place top)) ∧ Fr 168 [(4, v4), (5, v5), (6, .int .i64 top), (7, .string team), (8, .int .i64 place), (9, v9), (10, v10), (11, .int .i64 (drawE ts ws lots top)), (12, .pointer (some ⟨g12, 0, none⟩)), (13, .int .i64 (chanceE ts ws team place top)), (14, .int .i64 (fallL ts ws top)), (15, .int .i64 (topE ts ws top)), (16, .int .i64 (topE ts ws top)), (17, .int .i64 (drawE ts ws lots top)), (18, .int .i64 (chanceE ts ws team place top)), (19, v19), (20, .pointer (some ⟨g20, 0, none⟩)), (21, .int .i64 (fallL ts ws top))] a) (sel [1, 1, 1, 1, 1, 1, 1, 1, 1, 1, 1, 1, 1, 1, 1, 1, 1, 0] lwB) (fun a w => (Below n₀ w0 w) ∧ Fr 168 [(2, .bool true)] a) No 9 No := by
  refine T3.leaf ?_
  rintro Q JS JX JT K hS hK hX hE hT hR a w ⟨hW, ⟨fr, rfl, q4, q5, q6, q7, q8, q9, q10, q11, q12, q13, q14, q15, q16, q17, q18, q19, q20, q21, _⟩⟩
  have m0 := hW.1.la.m12.c0
  have m1 := hW.1.la.m12.c1
  have n0 := hW.2.c0
  have n1 := hW.2.c1
  have HA := Lib.hid (weights_prog w v4 v5 ts ws hW.1.la.lf.dh.h)
  have HB := Lib.hid (weights_ref w v4 v5 ts ws hW.1.la.lf.dh.h)
  have HQ := Lib.hid (equal_strL v10 v19 _ _ 0 0 w hW.1.la.r10 hW.1.r19)
  have HW := Lib.hid hW
  obtain ⟨p10, c10, hv10⟩ := hW.1.la.r10.shape
  obtain ⟨p19, c19, hv19⟩ := hW.1.r19.shape
  subst hv10
  subst hv19
  obtain ⟨p4, c4, hv4⟩ := hW.1.la.lf.dh.h.t.shape
  subst hv4
  obtain ⟨p5, c5, hv5⟩ := hW.1.la.lf.dh.h.w.shape
  subst hv5
  obtain ⟨p9, c9, hv9⟩ := hW.1.la.lf.dh.l.shape
  subst hv9
  clear hW
  generalize drawE ts ws lots top = eD at *
  generalize chanceE ts ws team place top = eC at *
  generalize topE ts ws top = eT at *
  generalize fallL ts ws top = fL at *
  generalize hN : chN ts ws team place top = N at *
  generalize hDD : chD ts ws team place top = DD at *
  generalize weightsE ts ws = eW at *
  rw [fr_lwB, show fr 4 = _ from q4, show fr 5 = _ from q5, show fr 6 = _ from q6, show fr 7 = _ from q7, show fr 8 = _ from q8, show fr 9 = _ from q9, show fr 10 = _ from q10, show fr 11 = _ from q11, show fr 12 = _ from q12, show fr 13 = _ from q13, show fr 14 = _ from q14, show fr 15 = _ from q15, show fr 16 = _ from q16, show fr 17 = _ from q17, show fr 18 = _ from q18, show fr 19 = _ from q19, show fr 20 = _ from q20, show fr 21 = _ from q21]
  clear q4 q5 q6 q7 q8 q9 q10 q11 q12 q13 q14 q15 q16 q17 q18 q19 q20 q21
  conv => arg 2; whnf
  go_wp2_with fail
  refine HA.out.mono ?_
  rintro e w1 ⟨rfl, rfl⟩
  go_wp2_with fail
  refine HB.out.mono ?_
  rintro e w1 ⟨rfl, rfl⟩
  go_wp2_with fail
  refine HQ.out.mono ?_
  rintro e w1 ⟨rfl, hb⟩
  have M := HW.out.1.la.m12.below hb
  have NN := HW.out.2.below hb
  have HL := Lib.hid (HW.out.1.la.lf.below hb)
  have x0 := M.c0
  have x1 := M.c1
  rw [hN] at x0
  rw [hDD] at x1
  have y0 := NN.c0
  have y1 := NN.c1
  clear M NN hb m0 m1 n0 n1
  go_wp2_with fail
  refine (finished_any w1).mono ?_
  rintro e w2 ⟨rfl, hb⟩
  have HL2 := Lib.hid (HL.out.below hb)
  clear hb x0 x1 y0 y1
  go_wp2_with fail
  refine Met.intro (hS _ _ ?_)
  exact ⟨HL2.out.bel, Fr.of _ rfl ⟨rfl, trivial⟩⟩

set_option maxRecDepth 100000 in
set_option maxHeartbeats 1000000 in
theorem lots_law (v : Value) (n : Nat) (zs : List Int) (w0 : World) (h : SRow w0 v n zs w0.heap.size) :
    Calls Try.prog 3 #[v] w0 fun e w' => e = .returned (.bool true) ∧ Below w0.heap.size w0 w' := by
  have hall : T3 Try.prog (fun a w => IsW w0 w ∧ Fr 168 [(0, v)] a) lwB No No 9 (fun a w => Below w0.heap.size w0 w ∧ Fr 168 [(2, .bool true)] a) := by
    refine T3.seq (s := (sel [0] lwB)) (c := (sel [1] lwB)) (T3.noT (lw0 v w0)) ?_
    refine T3.seq (s := (sel [1, 0] lwB)) (c := (sel [1, 1] lwB)) (T3.noT (lw1 v n zs w0 h)) ?_
    refine lw_data _ w0 _ ?_
    refine T3.ex fun v4 => T3.ex fun v5 => T3.ex fun v9 => T3.ex fun ts => T3.ex fun ws => T3.ex fun lots => T3.ex fun team => T3.ex fun place => T3.ex fun top => ?_
    refine T3.seq (s := (sel [1, 1, 1, 1, 1, 1, 1, 0] lwB)) (c := (sel [1, 1, 1, 1, 1, 1, 1, 1] lwB)) (T3.noT (lw11 _ w0 v4 v5 v9 ts ws lots team place top)) ?_
    refine T3.ex fun v10 => ?_
    refine T3.seq (s := (sel [1, 1, 1, 1, 1, 1, 1, 1, 0] lwB)) (c := (sel [1, 1, 1, 1, 1, 1, 1, 1, 1] lwB)) (T3.noT (lw12 _ w0 v4 v5 v9 ts ws lots team place top v10)) ?_
    refine T3.ex fun g12 => ?_
    refine T3.seq (s := (sel [1, 1, 1, 1, 1, 1, 1, 1, 1, 0] lwB)) (c := (sel [1, 1, 1, 1, 1, 1, 1, 1, 1, 1] lwB)) (T3.noT (lw13 _ w0 v4 v5 v9 ts ws lots team place top v10 g12)) ?_
    refine T3.seq (s := (sel [1, 1, 1, 1, 1, 1, 1, 1, 1, 1, 0] lwB)) (c := (sel [1, 1, 1, 1, 1, 1, 1, 1, 1, 1, 1] lwB)) (T3.noT (lw14 _ w0 v4 v5 v9 ts ws lots team place top v10 g12)) ?_
    refine T3.seq (s := (sel [1, 1, 1, 1, 1, 1, 1, 1, 1, 1, 1, 0] lwB)) (c := (sel [1, 1, 1, 1, 1, 1, 1, 1, 1, 1, 1, 1] lwB)) (T3.noT (lw15 _ w0 v4 v5 v9 ts ws lots team place top v10 g12)) ?_
    refine T3.seq (s := (sel [1, 1, 1, 1, 1, 1, 1, 1, 1, 1, 1, 1, 0] lwB)) (c := (sel [1, 1, 1, 1, 1, 1, 1, 1, 1, 1, 1, 1, 1] lwB)) (T3.noT (lw16 _ w0 v4 v5 v9 ts ws lots team place top v10 g12)) ?_
    refine T3.seq (s := (sel [1, 1, 1, 1, 1, 1, 1, 1, 1, 1, 1, 1, 1, 0] lwB)) (c := (sel [1, 1, 1, 1, 1, 1, 1, 1, 1, 1, 1, 1, 1, 1] lwB)) (S := (fun a w => ∃ (v19 : Value), (LB w0.heap.size w0 v4 v5 v9 ts ws lots team place top v10 g12 v19 w) ∧ Fr 168 [(4, v4), (5, v5), (6, .int .i64 top), (7, .string team), (8, .int .i64 place), (9, v9), (10, v10), (11, .int .i64 (drawE ts ws lots top)), (12, .pointer (some ⟨g12, 0, none⟩)), (13, .int .i64 (chanceE ts ws team place top)), (14, .int .i64 (fallL ts ws top)), (15, .int .i64 (topE ts ws top)), (16, .int .i64 (topE ts ws top)), (17, .int .i64 (drawE ts ws lots top)), (18, .int .i64 (chanceE ts ws team place top)), (19, v19)] a)) ?_ (T3.ex fun v19 => ?_)
    · refine T3.noT (T3.test (s := (sel [1, 1, 1, 1, 1, 1, 1, 1, 1, 1, 1, 1, 1, 0, 0] lwB)) (x := (sel [1, 1, 1, 1, 1, 1, 1, 1, 1, 1, 1, 1, 1, 0, 1, 2] lwB)) (y := .skip) (C := fun q => (q = (topE ts ws top == 0))) (W := fun w => LA w0.heap.size w0 v4 v5 v9 ts ws lots team place top v10 g12 w) (by decide) (lw17 _ w0 v4 v5 v9 ts ws lots team place top v10 g12) (fun a w q => ?_) (T3.skip ?_))
      · have hT : topE ts ws top = 0 := by have := q.2.1.symm; simpa using this
        exact lw18 _ w0 v4 v5 v9 ts ws lots team place top v10 g12 hT a w ⟨q.2.2, q.1.tail⟩
      · rintro a w ⟨hq, hW, hF⟩
        have hT : topE ts ws top ≠ 0 := by have := hq.symm; simpa using this
        have hd := de_top (lots := lots) hT
        refine ⟨.slice none 0 0, ⟨hW, ?_⟩, ?_⟩
        · rw [drawL_bad (by rw [hd]; exact hT)]
          exact ⟨rfl, .inl ⟨rfl, rfl⟩⟩
        · rw [hd]
          rw [hd] at hF
          exact hF
    refine T3.seq (s := (sel [1, 1, 1, 1, 1, 1, 1, 1, 1, 1, 1, 1, 1, 1, 0] lwB)) (c := (sel [1, 1, 1, 1, 1, 1, 1, 1, 1, 1, 1, 1, 1, 1, 1] lwB)) (T3.noT (lw19 _ w0 v4 v5 v9 ts ws lots team place top v10 g12 v19)) ?_
    refine T3.ex fun W => T3.ex fun g20 => T3.pure fun hg => ?_
    obtain ⟨hB, rfl⟩ := hg
    refine T3.seq (s := (sel [1, 1, 1, 1, 1, 1, 1, 1, 1, 1, 1, 1, 1, 1, 1, 0] lwB)) (c := (sel [1, 1, 1, 1, 1, 1, 1, 1, 1, 1, 1, 1, 1, 1, 1, 1] lwB)) (S := (fun a w => (LB w0.heap.size w0 v4 v5 v9 ts ws lots team place top v10 g12 v19 w ∧ A2 w W.heap.size (chN ts ws team place top) (chD ts ws team place top)) ∧ Fr 168 [(4, v4), (5, v5), (6, .int .i64 top), (7, .string team), (8, .int .i64 place), (9, v9), (10, v10), (11, .int .i64 (drawE ts ws lots top)), (12, .pointer (some ⟨g12, 0, none⟩)), (13, .int .i64 (chanceE ts ws team place top)), (14, .int .i64 (fallL ts ws top)), (15, .int .i64 (topE ts ws top)), (16, .int .i64 (topE ts ws top)), (17, .int .i64 (drawE ts ws lots top)), (18, .int .i64 (chanceE ts ws team place top)), (19, v19), (20, .pointer (some ⟨W.heap.size, 0, none⟩)), (21, .int .i64 0)] a)) ?_ ?_
    · refine T3.noT (T3.test (s := (sel [1, 1, 1, 1, 1, 1, 1, 1, 1, 1, 1, 1, 1, 1, 1, 0, 0] lwB)) (x := (sel [1, 1, 1, 1, 1, 1, 1, 1, 1, 1, 1, 1, 1, 1, 1, 0, 1, 2] lwB)) (y := .skip) (C := fun q => (q = (chanceE ts ws team place top == 0))) (W := fun w => One W w) (by decide) (lw20 _ w0 v4 v5 v9 ts ws lots team place top v10 g12 v19 W hB) (fun a w q => ?_) (T3.skip ?_))
      · have hC : chanceE ts ws team place top = 0 := by have := q.2.1.symm; simpa using this
        exact T3.post (lw21 _ w0 v4 v5 v9 ts ws lots team place top v10 g12 v19 W hB hC) (fun a w q => ⟨⟨hB.below q.1.bel, ⟨q.1.c0, q.1.c1⟩⟩, q.2⟩) a w ⟨q.2.2, q.1.tail⟩
      · rintro a w ⟨hq, hW, hF⟩
        have hC : chanceE ts ws team place top ≠ 0 := by have := hq.symm; simpa using this
        have hb := ch_bad hC
        refine ⟨⟨hB.below hW.rc.bel, ?_⟩, hF⟩
        rw [hb.1, hb.2]
        exact ⟨hW.rc.c0, hW.rc.c1⟩
    refine T3.seq (s := (sel [1, 1, 1, 1, 1, 1, 1, 1, 1, 1, 1, 1, 1, 1, 1, 1, 0] lwB)) (c := (sel [1, 1, 1, 1, 1, 1, 1, 1, 1, 1, 1, 1, 1, 1, 1, 1, 1] lwB)) (S := (fun a w => (LB w0.heap.size w0 v4 v5 v9 ts ws lots team place top v10 g12 v19 w ∧ A2 w W.heap.size (chN ts ws team place top) (chD ts ws team place top)) ∧ Fr 168 [(4, v4), (5, v5), (6, .int .i64 top), (7, .string team), (8, .int .i64 place), (9, v9), (10, v10), (11, .int .i64 (drawE ts ws lots top)), (12, .pointer (some ⟨g12, 0, none⟩)), (13, .int .i64 (chanceE ts ws team place top)), (14, .int .i64 (fallL ts ws top)), (15, .int .i64 (topE ts ws top)), (16, .int .i64 (topE ts ws top)), (17, .int .i64 (drawE ts ws lots top)), (18, .int .i64 (chanceE ts ws team place top)), (19, v19), (20, .pointer (some ⟨W.heap.size, 0, none⟩)), (21, .int .i64 (fallL ts ws top))] a)) ?_ ?_
    · refine T3.noT (T3.test (s := (sel [1, 1, 1, 1, 1, 1, 1, 1, 1, 1, 1, 1, 1, 1, 1, 1, 0, 0] lwB)) (x := (sel [1, 1, 1, 1, 1, 1, 1, 1, 1, 1, 1, 1, 1, 1, 1, 1, 0, 1, 2] lwB)) (y := .skip) (C := fun q => (q = (topE ts ws top == 0))) (W := fun w => LB w0.heap.size w0 v4 v5 v9 ts ws lots team place top v10 g12 v19 w ∧ A2 w W.heap.size (chN ts ws team place top) (chD ts ws team place top)) (by decide) (lw22 _ w0 v4 v5 v9 ts ws lots team place top v10 g12 v19 W.heap.size) (fun a w q => ?_) (T3.skip ?_))
      · have hT : topE ts ws top = 0 := by have := q.2.1.symm; simpa using this
        exact lw23 _ w0 v4 v5 v9 ts ws lots team place top v10 g12 v19 W.heap.size hT a w ⟨q.2.2, q.1.tail⟩
      · rintro a w ⟨hq, hW, hF⟩
        have hT : topE ts ws top ≠ 0 := by have := hq.symm; simpa using this
        refine ⟨hW, ?_⟩
        have hf : fallL ts ws top = 0 := by unfold fallL; rw [if_neg hT]
        rw [hf]
        rw [hf] at hF
        exact hF
    refine T3.seq (s := (sel [1, 1, 1, 1, 1, 1, 1, 1, 1, 1, 1, 1, 1, 1, 1, 1, 1, 0] lwB)) (c := (sel [1, 1, 1, 1, 1, 1, 1, 1, 1, 1, 1, 1, 1, 1, 1, 1, 1, 1] lwB)) (T3.noT (lw24 _ w0 v4 v5 v9 ts ws lots team place top v10 g12 v19 W.heap.size)) ?_
    exact T3.ret (fun a w q => q)
  go_enter Try.func3, Try.ntmps3
  refine T3.done (s := lwB) hall ⟨rfl, Fr.of _ rfl ⟨rfl, trivial⟩⟩ ?_
  rintro a w ⟨hb, fr, rfl, q2, _⟩
  rw [fr_lwB, show fr 2 = _ from q2]
  go_ret
  exact ⟨rfl, hb⟩
end Go.Proofs.Ytkdimgghljklmaa
