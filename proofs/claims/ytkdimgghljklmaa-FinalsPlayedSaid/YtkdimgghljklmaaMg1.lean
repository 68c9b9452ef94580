/-
  Contracts and lemmas towards the statement, of several parts; each part says ahead of it what it holds and under which conditions.
-/
import Derived.WalkKit
import Derived.WalkSpells
import Derived.WalkLawsBesides
import Derived.Lib.Hide
import Derived.Test.YtkdimgghljklmaaProg
import Derived.Deep.QuietTactic
import Derived.BigQuiet
import Derived.Lib.MinMax
import Derived.Shelf.Small.Bits
import Derived.Shelf.Small.Strs
import Derived.Shelf.Small.Wraps
import Derived.Shelf.Strconv.Itoa0
import Derived.Shelf.Strings.Search1
import Derived.Shelf.Sort.Plain
import Derived.Shelf.Slices.Turned
import Derived.Shelf.Slices.Reverse
import Derived.Shelf.Slices.Equal
import Derived.Ground.Names2Prog
import Derived.Shelf.Slices.ReverseS
import Derived.Shelf.Slices.Clone
import Derived.Shelf.Slices.SearchI
import Derived.Shelf.Slices.Cells
import Derived.Shelf.Slices.In.SortNone
import Derived.Shelf.Slices.Empties2
import Derived.Outline
import Derived.Lib.IndexAny
import Derived.Lib.SlicesS
import Derived.Deep.Cut

set_option linter.unusedVariables false
namespace Go.Bw
open Go.RowKit

/-- The value v is a slice of n elements, sz cells each, whose cells read cs; its block is at or beyond base. -/
def Row (w : World) (base sz : Nat) (v : Value) (n : Nat) (cs : List Value) : Prop :=
  cs.length = n * sz ∧
  ((v = .slice none 0 0 ∧ n = 0) ∨
   ∃ b off cap, v = .slice (some ⟨b, off, none⟩) n cap ∧ base ≤ b ∧ b < w.heap.size ∧ n ≤ cap ∧ cap ≤ maxLen ∧
     ∀ i u, cs[i]? = some u → w.cell? ⟨b, off + i, none⟩ = some u)

theorem Row.mono {w : World} {base base' sz n : Nat} {v : Value} {cs : List Value} (h : Row w base sz v n cs) (hb : base' ≤ base) : Row w base' sz v n cs := by
  obtain ⟨h1, h2⟩ := h
  refine ⟨h1, ?_⟩
  rcases h2 with h2 | ⟨b, off, cap, e, hb', r⟩
  · exact .inl h2
  · exact .inr ⟨b, off, cap, e, Nat.le_trans hb hb', r⟩

theorem Row.grow {w w' : World} {base sz n : Nat} {v : Value} {cs : List Value} {row : Option Nat} (h : Row w base sz v n cs)
    (g : w.grownBy w' row) (hr : ∀ k, row = some k → k < base) : Row w' base sz v n cs := by
  obtain ⟨h1, h2⟩ := h
  refine ⟨h1, ?_⟩
  rcases h2 with h2 | ⟨b, off, cap, e, hb, hlt, hn, hc, hcell⟩
  · exact .inl h2
  · refine .inr ⟨b, off, cap, e, hb, Nat.lt_of_lt_of_le hlt g.size, hn, hc, fun i u hu => ?_⟩
    rw [World.cell?_of_block (w := w) (g.block b hlt (fun e => by have := hr b e.symm; omega))]
    exact hcell i u hu

theorem Row.below {w w' : World} {base sz n : Nat} {v : Value} {cs : List Value} (h : Row w base sz v n cs)
    (g : Below w.heap.size w w') : Row w' base sz v n cs :=
  h.grow (row := none) ⟨g.os, g.tape, g.output, g.size, fun k hk _ => g.block k hk⟩ (by simp)

theorem Row.of_owns {w : World} {base e sz n : Nat} {v : Value} {cs : List Value} (h : w.ownsRow base e sz v n cs) : Row w base sz v n cs := by
  refine ⟨h.1, ?_⟩
  rcases h.2 with ⟨h1, h2⟩ | ⟨g, cap, cur, rfl, hb, hg, hn, hc, _, _⟩
  · exact .inl ⟨h1, h2⟩
  · refine .inr ⟨g, 0, cap, rfl, hb, (Array.getElem?_eq_some_iff.1 hg).1, hn, hc, fun i u hu => ?_⟩
    have := h.cells (g := g) rfl i u hu
    rw [Addr.add_lit] at this; simpa using this

theorem below_of_grown {w w' : World} {row : Option Nat} (g : w.grownBy w' row) (hr : ∀ k, row = some k → w.heap.size ≤ k) : Below w.heap.size w w' :=
  ⟨g.os, g.tape, g.output, g.size, fun k hk => g.block k hk (fun e => by have := hr k e.symm; omega)⟩

/-- the cell of element k of a row of ints -/
theorem Row.int_at {w : World} {base n : Nat} {v : Value} {xs : List Int} (h : Row w base 1 v n (xs.map (.int .i64))) :
    xs.length = n ∧ ((v = .slice none 0 0 ∧ n = 0) ∨ ∃ b off cap, v = .slice (some ⟨b, off, none⟩) n cap ∧ base ≤ b ∧ b < w.heap.size ∧ n ≤ cap ∧ cap ≤ maxLen ∧ ∀ k, k < n → w.cell? ⟨b, off + k, none⟩ = some (.int .i64 (xs[k]?.getD 0))) := by
  obtain ⟨h1, h2⟩ := h
  simp at h1
  refine ⟨h1, ?_⟩
  rcases h2 with h2 | ⟨b, off, cap, e, hb, hlt, hn, hc, hcell⟩
  · exact .inl h2
  · refine .inr ⟨b, off, cap, e, hb, hlt, hn, hc, fun k hk => hcell k _ ?_⟩
    have : k < xs.length := by omega
    simp [this]
/-- Element i of a list of ints, at an Int index (a plain def: the walk does not open it). -/
def geti (l : List Int) (i : Int) : Int := l[i.toNat]?.getD 0

theorem Row.ints {w : World} {base n : Nat} {v : Value} {xs : List Int} (h : Row w base 1 v n (xs.map (.int .i64))) :
    xs.length = n ∧ ((v = .slice none 0 0 ∧ n = 0) ∨ ∃ b off cap, v = .slice (some ⟨b, off, none⟩) n cap ∧ base ≤ b ∧ b < w.heap.size ∧ n ≤ cap ∧ cap ≤ maxLen ∧ ∀ i : Int, 0 ≤ i → i < n → w.cell? ⟨b, off + i.toNat, none⟩ = some (.int .i64 (geti xs i))) := by
  obtain ⟨h1, h2⟩ := h.int_at
  refine ⟨h1, ?_⟩
  rcases h2 with h2 | ⟨b, off, cap, e, hb, hlt, hn, hc, hcell⟩
  · exact .inl h2
  · exact .inr ⟨b, off, cap, e, hb, hlt, hn, hc, fun i h0 hi => hcell i.toNat (by omega)⟩
/-- v is a slice of the n numbers zs, whose block (if there are any) lies below B. -/
def SRow (w : World) (v : Value) (n : Nat) (zs : List Int) (B : Nat) : Prop :=
  (n = 0 ∧ ∃ a c, v = .slice a 0 c) ∨ (Row w 0 1 v n (zs.map (.int .i64)) ∧ ∀ k, v.ownBlock = some k → k < B)

/-- Block B holds a stream: a list of numbers (in a block below B) and how many were drawn, at most b. -/
def Str (B : Nat) (w : World) (b : Nat) : Prop :=
  ∃ (v : Value) (n : Nat) (zs : List Int) (t : Int), w.cell? ⟨B, 0, none⟩ = some v ∧ w.cell? ⟨B, 1, none⟩ = some (.int .i64 t) ∧ w.frozen? ⟨B, 1, none⟩ = false ∧
    0 ≤ t ∧ t ≤ b ∧ SRow w v n zs B

theorem Str.lt {B b : Nat} {w : World} (h : Str B w b) : B < w.heap.size := by
  obtain ⟨v, n, zs, t, h0, _⟩ := h
  exact World.block_lt_of_cell? w _ h0

theorem Str.mono {B b b' : Nat} {w : World} (h : Str B w b) (hb : b ≤ b') : Str B w b' := by
  obtain ⟨v, n, zs, t, h0, h1, h2, h3, h4, r⟩ := h
  exact ⟨v, n, zs, t, h0, h1, h2, h3, by omega, r⟩

theorem Row.swap {w w' : World} {base sz n : Nat} {v : Value} {cs : List Value} (h : Row w base sz v n cs)
    (hb : ∀ k, v.ownBlock = some k → w'.heap[k]? = w.heap[k]?) (hs : w.heap.size ≤ w'.heap.size) : Row w' base sz v n cs := by
  obtain ⟨h1, h2⟩ := h
  refine ⟨h1, ?_⟩
  rcases h2 with h2 | ⟨b, off, cap, rfl, hb', hlt, hn, hc, hcell⟩
  · exact .inl h2
  · refine .inr ⟨b, off, cap, rfl, hb', Nat.lt_of_lt_of_le hlt hs, hn, hc, fun i u hu => ?_⟩
    rw [World.cell?_of_block (w := w) (hb b rfl)]
    exact hcell i u hu

theorem SRow.swap {w w' : World} {v : Value} {n B : Nat} {zs : List Int} (h : SRow w v n zs B) (hb : ∀ k, k < B → w'.heap[k]? = w.heap[k]?) (hs : w.heap.size ≤ w'.heap.size) : SRow w' v n zs B := by
  rcases h with h | ⟨h, hk⟩
  · exact .inl h
  · exact .inr ⟨h.swap (fun k e => hb k (hk k e)) hs, hk⟩

/-- What leaves block B and the blocks below it alone leaves the stream. -/
theorem Str.below {B b : Nat} {w w' : World} (h : Str B w b) (g : Below w.heap.size w w') : Str B w' b := by
  have hlt := h.lt
  obtain ⟨v, n, zs, t, h0, h1, h2, h3, h4, h5⟩ := h
  exact ⟨v, n, zs, t, (g.cell (p := ⟨B, 0, none⟩) hlt).trans h0, (g.cell (p := ⟨B, 1, none⟩) hlt).trans h1, (g.frozen (p := ⟨B, 1, none⟩) hlt).trans h2, h3, h4,
    h5.swap (fun k hk => g.block k (Nat.lt_trans hk hlt)) g.size⟩

theorem grown_setCell (w : World) (B o : Nat) (u : Value) : w.grownBy (w.setCell ⟨B, o, none⟩ u) (some B) :=
  ⟨rfl, rfl, rfl, by simp [World.setCell], fun k _ hk => Below.heap_setCell _ _ _ _ (fun e => hk (by simp [e]))⟩

theorem grown_trans {w w1 w2 : World} {row : Option Nat} (g : w.grownBy w1 row) (g' : w1.grownBy w2 row) : w.grownBy w2 row :=
  ⟨g'.os.trans g.os, g'.tape.trans g.tape, g'.output.trans g.output, Nat.le_trans g.size g'.size, fun k hk hr => (g'.block k (Nat.lt_of_lt_of_le hk g.size) hr).trans (g.block k hk hr)⟩

theorem grown_of_below {w w' : World} {row : Option Nat} (g : Below w.heap.size w w') : w.grownBy w' row :=
  ⟨g.os, g.tape, g.output, g.size, fun k hk _ => g.block k hk⟩

theorem grown_refl (w : World) (row : Option Nat) : w.grownBy w row := ⟨rfl, rfl, rfl, Nat.le_refl _, fun _ _ _ => rfl⟩

theorem grown_drewN {w w' : World} {row : Option Nat} (g : w.grownBy w' row) (k : Nat) : w.grownBy (w'.drewN k) row :=
  ⟨g.os, g.tape, g.output, g.size, g.block⟩

theorem Str.drewN {B b : Nat} {w : World} (h : Str B w b) (k : Nat) : Str B (w.drewN k) b := h

/-- What the program's table says of a slice type t of elements e. -/
structure Elem (P : Program) (t e : TypeId) (z : Value) (size bytes : Nat) : Prop where
  ht : P.underlying t = some (.slice e)
  hi : (P.info? e).map (fun i => (i.zero, i.size, i.bytes)) = some (some z, size, bytes)
  hz : z.cells.size = size
  hs : 0 < size
  hb : bytes ≤ 128


/-- append of news to a slice that the call owns. -/
theorem app_law {P : Program} {ops : Array Oper} {rest : List Oper} {o : Oper} {a : Act} {Q : Exit → Act → World → Prop} {W : World} (hgd : o.guard = none) (s x : Operand) (t : TypeId)
    (ho : o.op = .call { callee := .builtin .append, args := #[s, x], argTypes := #[t, t] })
    {e : TypeId} {z : Value} {size bytes : Nat} (E : Elem P t e z size bytes) {base : Nat} {v : Value} {n : Nat} {xs : List Value} (hown : W.ownsRow base e size v n xs) (hs : a.eval s = v)
    {g m c : Nat} (news : List Value) (hx : a.eval x = .slice (some ⟨g, 0, none⟩) m c) (hl : news.length = m * size) (hnews : ∀ j u, news[j]? = some u → W.cell? ⟨g, j, none⟩ = some u) (h1 : ∀ u ∈ news, u.oneCell' = true)
    (hlim : n + m ≤ 1099511627776) (hbase : base ≤ W.heap.size)
    (h : ∀ v' w', w'.ownsRow base e size v' (n + m) (xs ++ news) → W.grownBy w' v.ownBlock → wpList P ops Q rest (a.put o.dst v') w') : wpList P ops Q (o :: rest) a W := by
  obtain ⟨i, hi, hz0, hz1, hz2⟩ := info_parts E.hi
  refine wpList_append_own W hgd s x t ho base e i z size bytes E.ht hi hz0 hz1 hz2 E.hz E.hs v n xs hs hown ⟨g, 0, none⟩ m c news hx hl (fun j u hj => ?_) h1 (by unfold maxLen; omega) ?_ hbase (fun v' w' h1 h2 _ => h v' w' h1 h2)
  · rw [Addr.add_lit]
    simpa using hnews j u hj
  · have := Nat.mul_le_mul hlim E.hb
    omega

theorem owns_shape {w : World} {base e sz n : Nat} {v : Value} {xs : List Value} (h : w.ownsRow base e sz v n xs) (hn : 0 < n) : ∃ g cap, v = .slice (some ⟨g, 0, none⟩) n cap ∧ base ≤ g ∧ g < w.heap.size ∧ n ≤ cap ∧ cap ≤ maxLen := by
  rcases h.2 with ⟨_, rfl⟩ | ⟨g, cap, cur, rfl, hb, hg, h1, h2, _⟩
  · omega
  · exact ⟨g, cap, rfl, hb, (Array.getElem?_eq_some_iff.1 hg).1, h1, h2⟩

theorem owns_mono {w : World} {base base' e sz n : Nat} {v : Value} {xs : List Value} (h : w.ownsRow base e sz v n xs) (hb : base' ≤ base) : w.ownsRow base' e sz v n xs := by
  refine ⟨h.1, ?_⟩
  rcases h.2 with h2 | ⟨g, cap, cur, rfl, hb', r⟩
  · exact .inl h2
  · exact .inr ⟨g, cap, cur, rfl, Nat.le_trans hb hb', r⟩

/-- What lies below base, or is owned from base on: below B. -/
theorem below_grown {B base e sz n : Nat} {w0 w w' : World} {v : Value} {cs : List Value} (hB : Below B w0 w) (h : w.ownsRow base e sz v n cs) (g : w.grownBy w' v.ownBlock) (hb : B ≤ base) (hs : B ≤ w.heap.size) : Below B w0 w' :=
  hB.grown g hs (fun k hk => Nat.le_trans hb (h.lt k hk).1)

theorem owns_below {w w' : World} {B base e sz n : Nat} {v : Value} {cs : List Value} (h : w.ownsRow base e sz v n cs) (g : Below B w w') (hB : w.heap.size ≤ B) : w'.ownsRow base e sz v n cs :=
  h.kept (row := none) ⟨g.os, g.tape, g.output, g.size, fun k hk _ => g.block k (by omega)⟩ (by cases hv : v.ownBlock <;> simp)

/-- The number of elements of a slice. -/
def lenOf : Value → Nat | .slice _ n _ => n | _ => 0

/-- A slice literal of ints: one block, whole. -/
theorem owns_lit (w : World) (base e : TypeId) (cs : Array Value) (n : Nat) (hn : n ≤ 1099511627776) (hs : cs.size = n) (hb : base ≤ w.heap.size) :
    (w.alloc (.cells cs e)).ownsRow base e 1 (.slice (some ⟨w.heap.size, 0, none⟩) n n) n cs.toList :=
  ⟨by simp [hs], .inr ⟨w.heap.size, n, cs, rfl, hb, heap_alloc_new w _, Nat.le_refl _, by unfold maxLen; omega, by simp [hs], by rw [List.take_of_length_le (by simp [hs])]⟩⟩

theorem below_app {B base e sz n : Nat} {w0 w w' : World} {v : Value} {cs : List Value} {o : Obj} (hB : Below B w0 w) (h : w.ownsRow base e sz v n cs) (g : (w.alloc o).grownBy w' v.ownBlock) (hb : B ≤ base) (hs : B ≤ w.heap.size) : Below B w0 w' :=
  below_grown (hB.alloc hs o) (h.alloc o) g hb (by simp; omega)

theorem cells_new (w : World) (cs : Array Value) (e : TypeId) : ∀ j u, cs.toList[j]? = some u → (w.alloc (.cells cs e)).cell? ⟨w.heap.size, j, none⟩ = some u := by
  intro j u h
  rw [World.cell?_alloc_at _ _ _ _ rfl]
  simpa using h

theorem cells_at (w : World) (cs : Array Value) (e : TypeId) (g : Nat) (hg : g = w.heap.size) : ∀ j u, cs.toList[j]? = some u → (w.alloc (.cells cs e)).cell? ⟨g, j, none⟩ = some u := by
  subst hg
  exact cells_new w cs e

/-- One step of a stream. -/
theorem Str.step {B b : Nat} {w : World} {v : Value} {n : Nat} {zs : List Int} {t : Int} (h0 : w.cell? ⟨B, 0, none⟩ = some v) (h1 : w.cell? ⟨B, 1, none⟩ = some (.int .i64 t))
    (h2 : w.frozen? ⟨B, 1, none⟩ = false) (h3 : 0 ≤ t) (h4 : t ≤ b) (h5 : SRow w v n zs B) :
    Str B (w.setCell ⟨B, 1, none⟩ (.int .i64 (t + 1))) (b + 1) := by
  refine ⟨v, n, zs, t + 1, ?_, ?_, ?_, by omega, by omega, h5.swap (fun k hk => Below.heap_setCell _ _ _ _ (fun e => by simp at e; omega)) (by simp [World.setCell])⟩
  · rw [World.cell?_setCell_other _ _ _ _ (by simp)]; exact h0
  · exact World.cell?_setCell_same' _ _ _ (by rw [h1]; rfl)
  · rw [World.frozen?_setCell]; exact h2
/-- The cells of an owned row of ints. -/
theorem owns_sizes {w : World} {base e n sz g cap : Nat} {xs : List Value} (h : w.ownsRow base e sz (.slice (some ⟨g, 0, none⟩) n cap) n xs) : base ≤ g ∧ g < w.heap.size ∧ n ≤ cap ∧ cap ≤ 9223372036854775807 := by
  rcases h.2 with ⟨h, _⟩ | ⟨g', cap', cur, h, hb, hg, h1, h2, _⟩
  · cases h
  · simp only [Value.slice.injEq, Option.some.injEq, Addr.mk.injEq] at h
    obtain ⟨⟨rfl, _⟩, _, rfl⟩ := h
    exact ⟨hb, (Array.getElem?_eq_some_iff.1 hg).1, h1, by unfold maxLen at h2; omega⟩

theorem ints_of_owns {w : World} {base e n g cap : Nat} {xs : List Int} (h : w.ownsRow base e 1 (.slice (some ⟨g, 0, none⟩) n cap) n (xs.map (.int .i64))) :
    ∀ i : Int, 0 ≤ i → i < xs.length → w.cell? ⟨g, i.toNat, none⟩ = some (.int .i64 (geti xs i)) := by
  intro i h0 h1
  have := h.cells (g := g) rfl i.toNat (.int .i64 (geti xs i)) (by unfold geti; rw [List.getElem?_map, List.getElem?_eq_getElem (by omega)]; simp)
  rw [Addr.add_lit] at this
  simpa using this
theorem ret_int {k : IntKind} {a b : Int} (h : a = b) : Ending.returned (.int k a) = .returned (.int k b) := by rw [h]
theorem ret_vi {v : Value} {c d : Int} (h' : c = d) : Ending.returned (.tuple #[v, .int .i64 c]) = .returned (.tuple #[v, .int .i64 d]) := by rw [h']
theorem ret_bool {a b : Bool} (h : a = b) : Ending.returned (.bool a) = .returned (.bool b) := by rw [h]
theorem ret_ii {a b c d : Int} (h : a = b) (h' : c = d) : Ending.returned (.tuple #[.int .i64 a, .int .i64 c]) = .returned (.tuple #[.int .i64 b, .int .i64 d]) := by rw [h, h']
theorem below_drewN {B : Nat} {w w' : World} (h : Below B w w') (k : Nat) : Below B w (w'.drewN k) := ⟨h.os, h.tape, h.output, h.size, h.block⟩
/-- The first of the codes f 0, f 1, .. that is not 0. -/
def firstErr (f : Int → Int) (n : Int) : Int := (((List.range n.toNat).map (fun (j : Nat) => f j)).find? (fun x => x != 0)).getD 0
def NoErr (f : Int → Int) (i : Int) : Prop := ∀ j : Int, 0 ≤ j → j < i → f j = 0
theorem NoErr.zero (f : Int → Int) : NoErr f 0 := fun _ _ _ => by omega
theorem NoErr.step {f : Int → Int} {i : Int} (h : NoErr f i) (hf : f i = 0) : NoErr f (i + 1) := fun j h0 h1 => by
  by_cases e : j = i
  · subst e; exact hf
  · exact h j h0 (by omega)
theorem firstErr_none {f : Int → Int} {n : Int} (h : NoErr f n) : firstErr f n = 0 := by
  unfold firstErr
  rw [List.find?_eq_none.2]
  · rfl
  · intro x hx
    obtain ⟨j, hj, rfl⟩ := List.mem_map.1 hx
    simp [h j (by omega) (by have := List.mem_range.1 hj; omega)]
theorem firstErr_hit {f : Int → Int} {n i : Int} (h : NoErr f i) (h0 : 0 ≤ i) (h1 : i < n) (hf : f i ≠ 0) : firstErr f n = f i := by
  unfold firstErr
  have e : List.range n.toNat = List.range i.toNat ++ i.toNat :: (List.range (n.toNat - i.toNat - 1)).map (· + (i.toNat + 1)) := by
    have : n.toNat = i.toNat + (1 + (n.toNat - i.toNat - 1)) := by omega
    rw [this, List.range_add, List.range_add]
    simp [List.range_one, Function.comp_def]
    intro a _
    omega
  rw [e, List.map_append, List.find?_append]
  have hn : List.find? (fun x => x != 0) ((List.range i.toNat).map fun (j : Nat) => f j) = none := by
    rw [List.find?_eq_none]
    intro x hx
    obtain ⟨j, hj, rfl⟩ := List.mem_map.1 hx
    simp [h j (by omega) (by have := List.mem_range.1 hj; omega)]
  rw [hn]
  simp [show ((i.toNat : Nat) : Int) = i by omega, hf]

theorem firstErr_zero {f : Int → Int} {n : Int} (h : firstErr f n = 0) (i : Int) (h0 : 0 ≤ i) (h1 : i < n) : f i = 0 := by
  by_cases hi : f i = 0
  · exact hi
  · exfalso
    have key : ∀ m : Nat, (m : Int) ≤ i → (∀ j : Int, 0 ≤ j → j < m → f j = 0) ∨ ∃ k : Int, 0 ≤ k ∧ k < n ∧ NoErr f k ∧ f k ≠ 0 := by
      intro m
      induction m with
      | zero => exact fun _ => .inl fun j a b => by omega
      | succ m ih =>
        intro hm
        rcases ih (by omega) with a | a
        · by_cases hf : f m = 0
          · exact .inl fun j b c => by
              by_cases e : j = m
              · subst e; exact hf
              · exact a j b (by omega)
          · exact .inr ⟨m, by omega, by omega, fun j b c => a j b c, hf⟩
        · exact .inr a
    rcases key i.toNat (by omega) with a | ⟨k, a, b, c, d⟩
    · have := firstErr_hit (f := f) (n := n) (i := i) (fun j b c => a j b (by omega)) h0 h1 hi
      rw [h] at this; exact hi this.symm
    · have := firstErr_hit c a b d
      rw [h] at this; exact d this.symm

/-- A part of a row of ints. -/
def subl (l : List Int) (lo hi : Int) : List Int := (l.take hi.toNat).drop lo.toNat
theorem Row.sub {w : World} {base n cap b off : Nat} {l : List Int} (h : Row w base 1 (.slice (some ⟨b, off, none⟩) n cap) n (l.map (.int .i64))) (lo hi : Int) (h0 : 0 ≤ lo) (h1 : lo ≤ hi) (h2 : hi ≤ n) :
    Row w base 1 (.slice (some ⟨b, off + lo.toNat, none⟩) (hi - lo).toNat (cap - lo.toNat)) (hi - lo).toNat ((subl l lo hi).map (.int .i64)) := by
  obtain ⟨hl, h⟩ := h
  rcases h with ⟨h, _⟩ | ⟨b', off', cap', h, hb, hlt, hn, hc, hcell⟩
  · cases h
  · simp only [Value.slice.injEq, Option.some.injEq, Addr.mk.injEq] at h
    obtain ⟨⟨rfl, rfl, _⟩, _, rfl⟩ := h
    simp at hl
    refine ⟨by simp [subl]; omega, .inr ⟨b, off + lo.toNat, cap - lo.toNat, rfl, hb, hlt, by omega, by unfold maxLen at *; omega, fun i u hu => ?_⟩⟩
    have hi : i < (subl l lo hi).length := by
      rw [List.getElem?_map] at hu
      cases hx : (subl l lo hi)[i]? with
      | none => rw [hx] at hu; cases hu
      | some x => exact (List.getElem?_eq_some_iff.1 hx).1
    have := hcell (lo.toNat + i) u (by
      rw [List.getElem?_map] at hu ⊢
      rw [← hu]
      congr 1
      unfold subl at hi ⊢
      rw [List.getElem?_drop, List.getElem?_take, if_pos]
      simp at hi
      omega)
    rwa [← Nat.add_assoc] at this
end Go.Bw
/-
  Lots: plain lemmas on who is drawn and on the sums over all rows of lots. No condition on a program.
-/
set_option linter.unusedVariables false
namespace Go.Bw

/-- The first from i on, round a ring of n places, of which p does not hold. -/
def ringF (n : Nat) (p : Nat → Bool) : Nat → Nat → Nat
  | 0, i => i
  | f + 1, i => if p i then ringF n p f ((i + 1) % n) else i

theorem ring_step {n i d : Nat} (hd : d ≠ 0) : ((i + 1) % n + (d - 1)) % n = (i + d) % n := by
  rw [Nat.mod_add_mod]
  congr 1
  omega

theorem ringF_free {n : Nat} {p : Nat → Bool} (hn : 0 < n) : ∀ (f i : Nat), i < n → (∃ d, d < f ∧ p ((i + d) % n) = false) → p (ringF n p f i) = false ∧ ringF n p f i < n
  | 0, i, _, ⟨d, hd, _⟩ => by omega
  | f + 1, i, hi, ⟨d, hd, hp⟩ => by
    unfold ringF
    cases hpi : p i with
    | false => simp [hpi, hi]
    | true =>
      simp only [if_true]
      have hd0 : d ≠ 0 := by
        intro e
        rw [e, Nat.add_zero, Nat.mod_eq_of_lt hi, hpi] at hp
        cases hp
      exact ringF_free hn f _ (Nat.mod_lt _ hn) ⟨d - 1, by omega, by rw [ring_step hd0]; exact hp⟩

theorem ring_far {n i k : Nat} (hi : i < n) (hk : k < n) : ∃ d, d < n ∧ (i + d) % n = k := by
  by_cases h : i ≤ k
  · exact ⟨k - i, by omega, by rw [show i + (k - i) = k by omega, Nat.mod_eq_of_lt hk]⟩
  · exact ⟨n + k - i, by omega, by rw [show i + (n + k - i) = k + n by omega, Nat.add_mod_right, Nat.mod_eq_of_lt hk]⟩

/-- The list of who is not there yet. -/
def restL (n : Nat) (h : List Nat) : List Nat := (List.range n).filter fun i => !h.contains i
def nxt (n : Nat) (h : List Nat) (i : Nat) : Nat := ringF n (fun j => h.contains j) n i

/-- Rows of places that may be given: within the range, nobody twice. -/
structure Have (n : Nat) (h : List Nat) : Prop where
  lt : ∀ x ∈ h, x < n
  nd : h.Nodup

theorem Have.nil (n : Nat) : Have n [] := ⟨fun _ h => (by cases h), List.nodup_nil⟩

theorem len_sub : ∀ (h l : List Nat), h.Nodup → (∀ x ∈ h, x ∈ l) → h.length ≤ l.length
  | [], _, _, _ => Nat.zero_le _
  | a :: h, l, hn, hs => by
    have ha := hs a (by simp)
    have hn' := List.nodup_cons.1 hn
    have ih := len_sub h (l.erase a) hn'.2 fun x hx => (List.mem_erase_of_ne (fun e => hn'.1 (by rw [← e]; exact hx))).2 (hs x (by simp [hx]))
    have hl := List.length_erase_of_mem ha
    have hp : 0 < l.length := List.length_pos_of_mem ha
    rw [List.length_cons]
    omega

theorem exists_free {n : Nat} {h : List Nat} (hh : Have n h) (hl : h.length < n) : ∃ k, k < n ∧ h.contains k = false := by
  refine Classical.byContradiction fun hc => ?_
  have hs : ∀ x ∈ List.range n, x ∈ h := fun x hx => by
    refine Classical.byContradiction fun hxn => hc ⟨x, List.mem_range.1 hx, ?_⟩
    cases hcx : h.contains x with
    | false => rfl
    | true => exact absurd (by simpa using hcx) hxn
  have := len_sub _ _ List.nodup_range hs
  simp at this
  omega

theorem nxt_free {n : Nat} {h : List Nat} (hh : Have n h) (hl : h.length < n) {i : Nat} (hi : i < n) : h.contains (nxt n h i) = false ∧ nxt n h i < n := by
  obtain ⟨k, hk, hf⟩ := exists_free hh hl
  obtain ⟨d, hd, e⟩ := ring_far hi hk
  exact ringF_free (by omega) n i hi ⟨d, hd, by rw [e]; exact hf⟩

theorem Have.snoc {n : Nat} {h : List Nat} (hh : Have n h) {j : Nat} (hj : j < n) (hc : h.contains j = false) : Have n (h ++ [j]) := by
  refine ⟨fun x hx => ?_, ?_⟩
  · rcases List.mem_append.1 hx with hx | hx
    · exact hh.lt x hx
    · rw [List.mem_singleton.1 hx]; exact hj
  · rw [List.nodup_append]
    refine ⟨hh.nd, by simp, fun a ha b hb e => ?_⟩
    rw [List.mem_singleton.1 hb] at e
    subst e
    have : h.contains a = true := by simpa using ha
    rw [hc] at this
    cases this

/-- All in their order once the lots are drawn. -/
def allL (n : Nat) (h : List Nat) : List Nat := h ++ restL n h

theorem allL_nodup {n : Nat} {h : List Nat} (hh : Have n h) : (allL n h).Nodup := by
  unfold allL
  rw [List.nodup_append]
  refine ⟨hh.nd, (List.nodup_range).filter _, fun a ha b hb e => ?_⟩
  subst e
  have := (List.mem_filter.1 hb).2
  simp [ha] at this

/-- A sum over 0 .. n - 1. -/
def sumN (n : Nat) (f : Nat → Int) : Int := ((List.range n).map f).sum
theorem sumN_zero (f : Nat → Int) : sumN 0 f = 0 := rfl
theorem sumN_succ (n : Nat) (f : Nat → Int) : sumN (n + 1) f = sumN n f + f n := by
  unfold sumN
  rw [List.range_succ, List.map_append, List.sum_append]
  simp
theorem sumN_congr {n : Nat} {f g : Nat → Int} (h : ∀ i, i < n → f i = g i) : sumN n f = sumN n g := by
  induction n with
  | zero => rfl
  | succ n ih => rw [sumN_succ, sumN_succ, ih fun i hi => h i (by omega), h n (by omega)]
theorem sumN_const_zero (n : Nat) : sumN n (fun _ => 0) = 0 := by
  induction n with
  | zero => rfl
  | succ n ih => rw [sumN_succ, ih]; rfl
theorem sumN_add (n : Nat) (f g : Nat → Int) : sumN n (fun i => f i + g i) = sumN n f + sumN n g := by
  induction n with
  | zero => rfl
  | succ n ih => rw [sumN_succ, sumN_succ, sumN_succ, ih]; omega
theorem sumN_mul (n : Nat) (f : Nat → Int) (c : Int) : sumN n (fun i => f i * c) = sumN n f * c := by
  induction n with
  | zero => rw [sumN_zero, sumN_zero, Int.zero_mul]
  | succ n ih => rw [sumN_succ, sumN_succ, ih, Int.add_mul]
theorem sumN_comm (n m : Nat) (f : Nat → Nat → Int) : sumN n (fun i => sumN m fun j => f i j) = sumN m (fun j => sumN n fun i => f i j) := by
  induction n with
  | zero => simp only [sumN_zero]; exact (sumN_const_zero m).symm
  | succ n ih =>
    rw [sumN_succ, ih, ← sumN_add]
    exact sumN_congr fun j _ => (sumN_succ n _).symm
/-- One term alone. -/
theorem sumN_single {n k : Nat} (hk : k < n) (c : Int) : sumN n (fun j => if k = j then c else 0) = c := by
  induction n with
  | zero => omega
  | succ n ih =>
    rw [sumN_succ]
    by_cases h : k = n
    · subst h
      rw [if_pos rfl, sumN_congr (g := fun _ => 0) (fun i hi => if_neg (by omega)), sumN_const_zero]
      omega
    · rw [ih (by omega), if_neg h]; omega
/-- Terms gathered by where they fall. -/
theorem sumN_gather {n m : Nat} (w : Nat → Int) (to : Nat → Nat) (hto : ∀ i, i < n → to i < m) (g : Nat → Int) :
    sumN n (fun i => w i * g (to i)) = sumN m (fun j => sumN n (fun i => if to i = j then w i else 0) * g j) := by
  have h1 : sumN m (fun j => sumN n (fun i => if to i = j then w i else 0) * g j) = sumN m (fun j => sumN n (fun i => if to i = j then w i * g (to i) else 0)) :=
    sumN_congr fun j _ => by
      rw [← sumN_mul]
      refine sumN_congr fun i _ => ?_
      split
      · rename_i h; rw [h]
      · rw [Int.zero_mul]
  rw [h1, ← sumN_comm]
  exact sumN_congr fun i hi => (sumN_single (hto i hi) _).symm

section
variable (ws : Nat → Int) (n place who : Nat)
/-- All rows of lots: the reference's count. -/
def chF : Nat → List Nat → Int
  | 0, h => if (allL n h)[place]? = some who then 1 else 0
  | m + 1, h => sumN n fun i => ws i * chF m (h ++ [nxt n h i])
/-- By how many numbers each one gets the next place. -/
def getsF (h : List Nat) (j : Nat) : Int := sumN n fun i => if nxt n h i = j then ws i else 0
/-- Who stands before one and has no place. -/
def beforeF (h : List Nat) : Nat := ((List.range who).filter fun i => !h.contains i).length
def othersF (h : List Nat) : Int := if h.contains who then 1 else if h.length + beforeF who h = place then 1 else 0
/-- The program's count. -/
def wayF : Nat → List Nat → Int
  | 0, h => othersF place who h
  | m + 1, h => sumN n fun j => if getsF ws n h j = 0 ∨ ¬(j = who ↔ h.length = place) then 0 else getsF ws n h j * wayF m (h ++ [j])
end

theorem chF_bad (ws : Nat → Int) (n place who : Nat) : ∀ (m : Nat) (h : List Nat), Have n h → h.length + m ≤ n → (∃ k x, h[k]? = some x ∧ ¬(x = who ↔ k = place)) → chF ws n place who m h = 0
  | 0, h, hh, _, ⟨k, x, hx, hne⟩ => by
    unfold chF
    rw [if_neg]
    intro hp
    have hk : k < h.length := (List.getElem?_eq_some_iff.1 hx).1
    have hx' : (allL n h)[k]? = some x := by unfold allL; rw [List.getElem?_append_left hk]; exact hx
    by_cases hxw : x = who
    · subst hxw
      have hpk := (List.getElem?_inj (i := place) (j := k) ((List.getElem?_eq_some_iff.1 hp).1) (allL_nodup hh)).1 (hp.trans hx'.symm)
      exact hne ⟨fun _ => hpk.symm, fun _ => rfl⟩
    · refine hne ⟨fun e => absurd e hxw, fun e => ?_⟩
      subst e
      exact Option.some.inj (hx'.symm.trans hp)
  | m + 1, h, hh, hl, ⟨k, x, hx, hne⟩ => by
    unfold chF
    rw [← sumN_const_zero n]
    refine sumN_congr fun i hi => ?_
    obtain ⟨f1, f2⟩ := nxt_free hh (by omega) hi
    rw [chF_bad ws n place who m _ (hh.snoc f2 f1) (by simp; omega) ⟨k, x, by rw [List.getElem?_append_left (List.getElem?_eq_some_iff.1 hx).1]; exact hx, hne⟩, Int.mul_zero]

theorem rest_at {n who : Nat} {h : List Nat} (hw : who < n) (hc : h.contains who = false) (k : Nat) : (restL n h)[k]? = some who ↔ beforeF who h = k := by
  have hsplit : restL n h = ((List.range who).filter fun i => !h.contains i) ++ who :: ((List.range' (who + 1) (n - who - 1)).filter fun i => !h.contains i) := by
    unfold restL
    have : List.range n = List.range who ++ who :: List.range' (who + 1) (n - who - 1) := by
      rw [List.range_eq_range', show n = who + (1 + (n - who - 1)) by omega, ← List.range'_append (s := 0) (m := who), List.range_eq_range']
      congr 1
      rw [show 1 + (n - who - 1) = (n - who - 1) + 1 by omega]
      simp [List.range'_succ]
    rw [this, List.filter_append, List.filter_cons, if_pos (by simpa using hc)]
  have hnd : (restL n h).Nodup := (List.nodup_range).filter _
  have hat : (restL n h)[beforeF who h]? = some who := by
    rw [hsplit]
    unfold beforeF
    rw [List.getElem?_append_right (Nat.le_refl _)]
    simp
  constructor
  · intro hk
    exact ((List.getElem?_inj (i := k) (j := beforeF who h) (List.getElem?_eq_some_iff.1 hk).1 hnd).1 (hk.trans hat.symm)).symm
  · rintro rfl
    exact hat

theorem wayF_eq (ws : Nat → Int) (n place who : Nat) (hw : who < n) : ∀ (m : Nat) (h : List Nat), Have n h → h.length + m ≤ n → (place < n) → (∀ k x, h[k]? = some x → (x = who ↔ k = place)) → wayF ws n place who m h = chF ws n place who m h
  | 0, h, hh, _, hp, hok => by
    unfold wayF chF othersF
    by_cases hc : h.contains who = true
    · rw [if_pos hc]
      obtain ⟨k, hk, e⟩ := List.getElem_of_mem (show who ∈ h by simpa using hc)
      have hk' : h[k]? = some who := by rw [List.getElem?_eq_getElem hk, e]
      have hkp := (hok k who hk').1 rfl
      subst hkp
      rw [if_pos]
      unfold allL
      rw [List.getElem?_append_left hk]
      exact hk'
    · have hc' : h.contains who = false := by simpa using hc
      rw [if_neg (by rw [hc']; decide)]
      have hpl : h.length ≤ place := by
        refine Nat.le_of_not_lt fun hlt => ?_
        have := (hok place h[place] (List.getElem?_eq_getElem hlt)).2 rfl
        exact hc (by rw [← this]; simp)
      have e : (allL n h)[place]? = some who ↔ h.length + beforeF who h = place := by
        unfold allL
        rw [List.getElem?_append_right hpl, rest_at hw hc']
        omega
      by_cases h1 : h.length + beforeF who h = place
      · rw [if_pos h1, if_pos (e.2 h1)]
      · rw [if_neg h1, if_neg fun hh => h1 (e.1 hh)]
  | m + 1, h, hh, hl, hp, hok => by
    unfold wayF chF
    rw [sumN_gather ws (nxt n h) (fun i hi => (nxt_free hh (by omega) hi).2) (fun j => chF ws n place who m (h ++ [j]))]
    refine sumN_congr fun j hj => ?_
    show (if getsF ws n h j = 0 ∨ _ then (0 : Int) else _) = getsF ws n h j * chF ws n place who m (h ++ [j])
    by_cases h0 : getsF ws n h j = 0
    · rw [if_pos (.inl h0), h0, Int.zero_mul]
    · have hjc : h.contains j = false := by
        refine Classical.byContradiction fun hc => h0 ?_
        unfold getsF
        refine (sumN_congr (g := fun _ => 0) fun i hi => if_neg fun e => hc ?_).trans (sumN_const_zero n)
        rw [← e]
        exact (nxt_free hh (by omega) hi).1
      have hh' := hh.snoc hj hjc
      by_cases hv : (j = who ↔ h.length = place)
      · rw [if_neg (by rintro (h1 | h1); exact h0 h1; exact h1 hv)]
        rw [wayF_eq ws n place who hw m _ hh' (by simp; omega) hp]
        intro k x hx
        by_cases hk : k < h.length
        · rw [List.getElem?_append_left hk] at hx
          exact hok k x hx
        · have hk2 := (List.getElem?_eq_some_iff.1 hx).1
          simp at hk2
          obtain rfl : k = h.length := by omega
          rw [List.getElem?_append_right (Nat.le_refl _)] at hx
          simp at hx
          subst hx
          exact hv
      · rw [if_pos (.inr hv), chF_bad ws n place who m _ hh' (by simp; omega) ⟨h.length, j, by rw [List.getElem?_append_right (Nat.le_refl _)]; simp, hv⟩, Int.mul_zero]
end Go.Bw
/-
  Lots: plain lemmas on the team that a number draws, on the order that lots make, and on how far a team can fall. No condition on a program.
-/
set_option linter.unusedVariables false
namespace Go.Bw

/-- The team that a number draws. -/
def drawnF : List Int → Int → Nat
  | [], _ => 0
  | w :: l, n => if w ≤ n then drawnF l (n - w) + 1 else 0

theorem drawnF_lt : ∀ (l : List Int) (n : Int), n < l.sum → 0 ≤ n → drawnF l n < l.length
  | [], n, h, h0 => by simp at h; omega
  | w :: l, n, h, h0 => by
    rw [List.sum_cons] at h
    unfold drawnF
    split
    · have := drawnF_lt l (n - w) (by omega) (by omega)
      simp; omega
    · simp

/-- One step of the search: it stands at i with n left. -/
theorem drawnF_step (l : List Int) (i : Nat) (n : Int) (hi : i < l.length) : drawnF (l.drop i) n = if l[i] ≤ n then drawnF (l.drop (i + 1)) (n - l[i]) + 1 else 0 := by
  rw [List.drop_eq_getElem_cons hi, drawnF]

theorem sum_drop (l : List Int) (i : Nat) (hi : i < l.length) : (l.drop i).sum = l[i] + (l.drop (i + 1)).sum := by
  rw [List.drop_eq_getElem_cons hi, List.sum_cons]

/-- Who has a place after some lots. -/
def lotsH (n : Nat) (ws : List Int) (all : Int) : List Int → List Nat → List Nat
  | [], h => h
  | x :: l, h => lotsH n ws all l (h ++ [nxt n h (drawnF ws (x % all))])

theorem lotsH_snoc (n : Nat) (ws : List Int) (all : Int) : ∀ (l : List Int) (x : Int) (h : List Nat), lotsH n ws all (l ++ [x]) h = lotsH n ws all l h ++ [nxt n (lotsH n ws all l h) (drawnF ws (x % all))]
  | [], x, h => rfl
  | y :: l, x, h => by rw [List.cons_append, lotsH, lotsH_snoc n ws all l x]; rfl

theorem lotsH_length (n : Nat) (ws : List Int) (all : Int) : ∀ (l : List Int) (h : List Nat), (lotsH n ws all l h).length = h.length + l.length
  | [], h => rfl
  | x :: l, h => by rw [lotsH, lotsH_length n ws all l]; simp; omega

theorem lotsH_have {n : Nat} {ws : List Int} {all : Int} (hw : ws.length = n) (hs : all = ws.sum) (hp : 0 < all) : ∀ (l : List Int) (h : List Nat), Have n h → h.length + l.length ≤ n → Have n (lotsH n ws all l h)
  | [], h, hh, _ => hh
  | x :: l, h, hh, hl => by
    have hl' : h.length + (l.length + 1) ≤ n := hl
    have hd : drawnF ws (x % all) < n := by
      rw [← hw]
      exact drawnF_lt ws _ (by rw [← hs]; exact Int.emod_lt_of_pos _ hp) (Int.emod_nonneg _ (by omega))
    obtain ⟨f1, f2⟩ := nxt_free hh (by omega) hd
    rw [lotsH]
    exact lotsH_have hw hs hp l _ (hh.snoc f2 f1) (by simp; omega)

/-- Those before k who have no place. -/
def restTo (h : List Nat) (k : Nat) : List Nat := (List.range k).filter fun i => !h.contains i
theorem restTo_succ (h : List Nat) (k : Nat) : restTo h (k + 1) = restTo h k ++ (if h.contains k then [] else [k]) := by
  unfold restTo
  rw [List.range_succ, List.filter_append]
  by_cases hc : k ∈ h <;> simp [hc]
theorem restTo_all (n : Nat) (h : List Nat) : restTo h n = restL n h := rfl
theorem mem_restTo {h : List Nat} {k x : Nat} (hx : x ∈ restTo h k) : x < k := by
  have := (List.mem_filter.1 hx).1
  simpa using this
/-- The reference looks at the growing list: it is the same. -/
theorem grow_contains (h : List Nat) (k : Nat) : (h ++ restTo h k).contains k = h.contains k := by
  rw [List.contains_append]
  have : (restTo h k).contains k = false := by
    cases hc : (restTo h k).contains k with
    | false => rfl
    | true => exact absurd (mem_restTo (by simpa using hc)) (Nat.lt_irrefl _)
  rw [this, Bool.or_false]

/-- Bit i of m. -/
def bitN (m i : Nat) : Nat := m / 2 ^ i % 2
def popTo (m : Nat) : Nat → Nat
  | 0 => 0
  | i + 1 => popTo m i + bitN m i
def zerosTo (m : Nat) : Nat → Nat
  | 0 => 0
  | i + 1 => zerosTo m i + (1 - bitN m i)
/-- The most that one falls whose bit is not set, behind i steps, from most on. -/
def fallTo (top : Int) (m : Nat) (most : Int) : Nat → Int
  | 0 => most
  | i + 1 => if bitN m i = 0 then max (fallTo top m most i) (top + zerosTo m i - i) else fallTo top m most i
def mostTo (n : Nat) (top : Int) : Nat → Int
  | 0 => 0
  | m + 1 => if (popTo m n : Int) = top then fallTo top m (mostTo n top m) n else mostTo n top m
def fallR (n : Nat) (top : Int) : Int := max (mostTo n top (2 ^ n)) (top - 1)
theorem fallR_all : ∀ n : Fin 8, ∀ t : Fin 5, 0 < n.val → t.val ≤ n.val → fallR n.val (t.val : Int) = min (t.val : Int) ((n.val : Int) - 1) := by decide +kernel
theorem fallR_eq {n : Nat} {top : Int} (h1 : 0 < n) (h7 : n ≤ 7) (t0 : 0 ≤ top) (t4 : top ≤ 4) (tn : top ≤ n) : fallR n top = min top ((n : Int) - 1) := by
  have := fallR_all ⟨n, by omega⟩ ⟨top.toNat, by omega⟩ h1 (by show top.toNat ≤ n; omega)
  simp only [Int.toNat_of_nonneg t0] at this
  exact this
end Go.Bw
/-
  The numbers that a stream hands out, and the small functions on numbers. Conditions: the bounds on numbers that each theorem names.
-/
set_option linter.unusedVariables false
namespace Go.Proofs.Ytkdimgghljklmaa
open Go.RowKit Go.Bw

set_option maxHeartbeats 400000 in
theorem out_true (n low high : Int) (w : World) (h : n < low ∨ high < n) :
    Calls Try.prog 42 #[.int .i64 n, .int .i64 low, .int .i64 high] w fun e w' => e = .returned (.bool true) ∧ w = w' := by
  rcases h with h | h
  · go_enter Try.func42, Try.ntmps42
    go_wp2
    go_ret
    exact ⟨by simp, rfl⟩
  · by_cases h2 : n < low
    · go_enter Try.func42, Try.ntmps42
      go_wp2
      go_ret
      exact ⟨by simp, rfl⟩
    · go_enter Try.func42, Try.ntmps42
      go_wp2
      go_ret
      exact ⟨by simp, rfl⟩

set_option maxHeartbeats 400000 in
theorem out_false (n low high : Int) (w : World) (h : low ≤ n) (h' : n ≤ high) :
    Calls Try.prog 42 #[.int .i64 n, .int .i64 low, .int .i64 high] w fun e w' => e = .returned (.bool false) ∧ w = w' := by
  go_enter Try.func42, Try.ntmps42
  go_wp2
  go_ret
  exact ⟨by simp; omega, rfl⟩

/-- Is n outside low to high? -/
def outB (n low high : Int) : Bool := decide (n < low ∨ high < n)

theorem out_any (n low high : Int) (w : World) :
    Calls Try.prog 42 #[.int .i64 n, .int .i64 low, .int .i64 high] w fun e w' => e = .returned (.bool (outB n low high)) ∧ w = w' := by
  by_cases h : n < low ∨ high < n
  · have : outB n low high = true := by simp [outB, h]
    rw [this]
    exact out_true n low high w h
  · have : outB n low high = false := by simp [outB]; omega
    rw [this]
    exact out_false n low high w (by omega) (by omega)

theorem tmod_bounds (x n : Int) (h : 1 ≤ n) : -n < x.tmod n ∧ x.tmod n < n := by
  have h2 : x.tmod n < n := Int.tmod_lt_of_pos _ (by omega)
  have h3 : (-x).tmod n < n := Int.tmod_lt_of_pos _ (by omega)
  rw [Int.neg_tmod] at h3
  omega

set_option maxHeartbeats 400000 in
theorem below_any (x n : Int) (w : World) (hn : n ≤ 1099511627776) :
    Calls Try.prog 72 #[.int .i64 x, .int .i64 n] w fun e w' => ∃ r : Int, e = .returned (.int .i64 r) ∧ (n < 1 → r = 0) ∧ (1 ≤ n → 0 ≤ r ∧ r < n) ∧ w = w' := by
  by_cases h : n < 1
  · go_enter Try.func72, Try.ntmps72
    go_wp2
    go_ret
    exact ⟨0, rfl, fun _ => rfl, by omega, rfl⟩
  · obtain ⟨h1, h2⟩ := tmod_bounds x n (by omega)
    by_cases h3 : x.tmod n < 0
    · go_enter Try.func72, Try.ntmps72
      go_wp2
      go_ret
      exact ⟨_, rfl, by omega, by omega, rfl⟩
    · go_enter Try.func72, Try.ntmps72
      go_wp2
      go_ret
      exact ⟨_, rfl, by omega, by omega, rfl⟩

set_option maxHeartbeats 1000000 in
theorem next_any (B b : Nat) (n : Int) (w : World) (hn : n ≤ 1099511627776) (hS : Str B w b) (hb : b ≤ 1099511627776) :
    Calls Try.prog 34 #[.pointer (some ⟨B, 0, none⟩), .int .i64 n] w fun e w' => ∃ r : Int, e = .returned (.int .i64 r) ∧ (n < 1 → r = 0) ∧ (1 ≤ n → 0 ≤ r ∧ r < n) ∧
      Str B w' (b + 1) ∧ w.grownBy w' (some B) := by
  have hS0 := hS
  obtain ⟨v, m, zs, t, h0, h1, h2, h3, h4, h5'⟩ := hS
  have hst := Str.step h0 h1 h2 h3 h4 h5'
  have c0 : (w.setCell ⟨B, 1, none⟩ (.int .i64 (t + 1))).cell? ⟨B, 0, none⟩ = some v := by rw [World.cell?_setCell_other _ _ _ _ (by simp)]; exact h0
  have c1 : (w.setCell ⟨B, 1, none⟩ (.int .i64 (t + 1))).cell? ⟨B, 1, none⟩ = some (.int .i64 (t + 1)) := World.cell?_setCell_same' _ _ _ (by rw [h1]; rfl)
  have ht : t ≤ 1099511627776 := by omega
  have hv : ∃ a cap, v = .slice a m cap := by
    rcases h5' with ⟨rfl, a, c, rfl⟩ | ⟨h5, h6⟩
    · exact ⟨_, _, rfl⟩
    · rcases h5.2 with ⟨rfl, rfl⟩ | ⟨bz, off, cap, rfl, _⟩
      · exact ⟨_, _, rfl⟩
      · exact ⟨_, _, rfl⟩
  by_cases hm0 : m = 0
  · obtain ⟨a, cap, rfl⟩ := hv
    subst hm0
    clear h5' hS0
    go_enter Try.func34, Try.ntmps34
    go_wp2_with (go_at_call 72; refine (below_any _ _ _ hn).mono ?_; rintro e w1 ⟨r, rfl, hr0, hr1, rfl⟩)
    go_ret
    exact ⟨_, rfl, hr0, hr1, hst, grown_setCell _ _ _ _⟩
  · clear hv
    rcases h5' with ⟨h, _⟩ | ⟨h5, h6⟩
    · exact absurd h hm0
    obtain ⟨hlen, hcase⟩ := h5.ints
    rcases hcase with ⟨rfl, h⟩ | ⟨bz, off, cap, rfl, hbb, hbs, hnc, hcm, hcell⟩
    · exact absurd h hm0
    · have hbB : bz < B := h6 bz rfl
      have hi0 : 0 ≤ t % m := Int.emod_nonneg _ (by omega)
      have hi1 : t % m < m := Int.emod_lt_of_pos _ (by omega)
      have hc : (w.setCell ⟨B, 1, none⟩ (.int .i64 (t + 1))).cell? ⟨bz, off + (t % m).toNat, none⟩ = some (.int .i64 (geti zs (t % m))) := by
        rw [World.cell?_setCell_other _ _ _ _ (by simp)]; exact hcell _ hi0 hi1
      have hmp : ((m : Int) == 0) = false := by simp; omega
      have hm64 : (m : Int) ≤ 9223372036854775807 := by unfold maxLen at hcm; omega
      clear hcell h6 h5 hS0 hlen
      unfold maxLen at hcm
      go_enter Try.func34, Try.ntmps34
      go_wp2_with (go_at_call 72; refine (below_any _ _ _ (by first | exact hn | omega)).mono ?_; rintro e w1 ⟨r, rfl, hr0, hr1, rfl⟩)
      go_quiet (fail)
      go_wp2_with fail
      go_quiet (fail)
      go_wp2_with (go_at_call 72; refine (below_any _ _ _ (by first | exact hn | omega)).mono ?_; rintro e w1 ⟨r, rfl, hr0, hr1, rfl⟩)
      go_ret
      exact ⟨_, rfl, hr0, hr1, hst.drewN _, grown_drewN (grown_setCell _ _ _ _) _⟩

set_option maxHeartbeats 400000 in
/-- Range: a number from low to high. -/
theorem range_any (B b : Nat) (low high : Int) (w : World) (hl : -1099511627000 ≤ low) (hl' : low ≤ 549755813888) (hh : high ≤ 549755813888) (hlo : high - low ≤ 1099511627000) (hS : Str B w b) (hb : b ≤ 1099511627776) :
    Calls Try.prog 8 #[.pointer (some ⟨B, 0, none⟩), .int .i64 low, .int .i64 high] w fun e w' => ∃ r : Int, e = .returned (.int .i64 r) ∧ low ≤ r ∧ (low ≤ high → r ≤ high) ∧ (high < low → r = low) ∧
      Str B w' (b + 1) ∧ w.grownBy w' (some B) := by
  by_cases h : high < low
  · go_enter Try.func8, Try.ntmps8
    go_wp2
    go_ret
    exact ⟨_, rfl, by omega, by omega, by omega, hS.mono (by omega), grown_refl _ _⟩
  · go_enter Try.func8, Try.ntmps8
    go_wp2_with (go_at_call 34; refine (next_any B b _ _ (by omega) hS hb).mono ?_; rintro e w1 ⟨r, rfl, hr0, hr1, hS1, hg1⟩; have hrl := (hr1 (by omega)).1; have hrh := (hr1 (by omega)).2)
    go_ret
    exact ⟨_, rfl, by omega, by omega, by omega, hS1, hg1⟩

set_option maxHeartbeats 400000 in
theorem flip_any (B b : Nat) (n : Int) (w : World) (hn : n ≤ 1099511627776) (hS : Str B w b) (hb : b ≤ 1099511627776) :
    Calls Try.prog 9 #[.pointer (some ⟨B, 0, none⟩), .int .i64 n] w fun e w' => ∃ r : Bool, e = .returned (.bool r) ∧ Str B w' (b + 1) ∧ w.grownBy w' (some B) := by
  go_enter Try.func9, Try.ntmps9
  go_wp2_with (go_at_call 34; refine (next_any B b _ _ hn hS hb).mono ?_; rintro e w1 ⟨r, rfl, hr0, hr1, hS1, hg1⟩)
  go_ret
  exact ⟨_, rfl, hS1, hg1⟩

set_option maxHeartbeats 400000 in
/-- Pick: one of some numbers. -/
theorem pick_any (B b : Nat) (v : Value) (n : Nat) (xs : List Int) (w : World) (hx : Row w 0 1 v n (xs.map (.int .i64))) (hn0 : 0 < n) (hn : n ≤ 1099511627776) (hB : ∀ k, v.ownBlock = some k → k ≠ B) (hS : Str B w b) (hb : b ≤ 1099511627776) :
    Calls Try.prog 6 #[.pointer (some ⟨B, 0, none⟩), v] w fun e w' => ∃ r : Int, e = .returned (.int .i64 r) ∧ r ∈ xs ∧ Str B w' (b + 1) ∧ w.grownBy w' (some B) := by
  obtain ⟨hlen, hcase⟩ := hx.ints
  rcases hcase with ⟨rfl, h⟩ | ⟨bz, off, cap, rfl, hbb, hbs, hnc, hcm, hcell⟩
  · omega
  · have hne : bz ≠ B := hB bz rfl
    clear hB hx
    unfold maxLen at hcm
    go_enter Try.func6, Try.ntmps6
    go_wp2_with (go_at_call 34; refine (next_any B b _ _ (by omega) hS hb).mono ?_; rintro e w1 ⟨r, rfl, hr0, hr1, hS1, hg1⟩; have hrl := (hr1 (by omega)).1; have hrh := (hr1 (by omega)).2; have hc := (World.cell?_of_block (a := ⟨bz, off + r.toNat, none⟩) (hg1.block bz hbs (by simpa using hne))).trans (hcell r hrl hrh); clear hcell)
    go_ret
    exact ⟨_, rfl, by unfold geti; rw [List.getElem?_eq_getElem (by omega)]; simp, hS1, hg1⟩

set_option maxHeartbeats 400000 in
theorem in_any (n low high : Int) (w : World) :
    Calls Try.prog 47 #[.int .i64 n, .int .i64 low, .int .i64 high] w fun e w' => e = .returned (.bool (!outB n low high)) ∧ w = w' := by
  by_cases h1 : n < low
  · have h2 : outB n low high = true := by simp [outB, h1]
    rw [h2]
    go_enter Try.func47, Try.ntmps47
    go_wp2
    go_ret
    exact ⟨by simp <;> omega, rfl⟩
  · by_cases h3 : high < n
    · have h2 : outB n low high = true := by simp [outB, h3]
      rw [h2]
      go_enter Try.func47, Try.ntmps47
      go_wp2
      go_ret
      exact ⟨by simp <;> omega, rfl⟩
    · have h2 : outB n low high = false := by simp [outB]; omega
      rw [h2]
      go_enter Try.func47, Try.ntmps47
      go_wp2
      go_ret
      exact ⟨by simp <;> omega, rfl⟩

end Go.Proofs.Ytkdimgghljklmaa
/-
  The library's contracts at this program, as the kit's tool lays them in plain words. No condition.
-/
namespace Go.Proofs
open Go.Shelf
def Try.lays128_ren : Go.Shelf.Ren := ⟨fun | 128 => 97 | n => n, fun | 51 => 120 | 3 => 3 | 4 => 4 | 46 => 105 | 5 => 5 | 9 => 9 | n => n, fun | n => n⟩
theorem Try.lays128 : Go.Proofs.Lays.n128 Try.prog Try.lays128_ren := {
  mixed := by kernel_rfl
  f128 := Try.func97.trans (congrArg some (by kernel_rfl))
  t3 := Try.underlying3
  a3 := Try.isAgg3
  z3 := Try.sizeOf3
  v3 := Try.zeroValue3
  t4 := Try.underlying4
  a4 := Try.isAgg4
  z4 := Try.sizeOf4
  v4 := Try.zeroValue4
  t5 := Try.underlying5
  a5 := Try.isAgg5
  z5 := Try.sizeOf5
  v5 := Try.zeroValue5
  t9 := Try.underlying9
  a9 := Try.isAgg9
  z9 := Try.sizeOf9
  v9 := Try.zeroValue9
  t46 := Try.underlying105
  a46 := Try.isAgg105
  z46 := Try.sizeOf105
  v46 := Try.zeroValue105
  t51 := Try.underlying120
  a51 := Try.isAgg120
  z51 := Try.sizeOf120
  v51 := Try.zeroValue120 }
/-- bits.Len32: "Len32 returns the minimum number of bits required to represent x; the result is 0 for x == 0.": IT RETURNS 'Lib.bitLen x'; the world is as it was. ('h0', 'h1': x is a uint32.) (LAID: no walk: one application.) -/
theorem Try.bits_Len32 (x : Int) (w : World) (h0 : 0 ≤ x) (h1 : x ≤ 4294967295) :
    Calls Try.prog 97 #[.int .u32 x] w fun e w' => e = .returned (.int .i64 (Lib.bitLen x.toNat)) ∧ w' = w := Any.bits_Len32 Try.lays128 x w h0 h1
def Try.lays125_ren : Go.Shelf.Ren := ⟨fun | 125 => 83 | 128 => 97 | 129 => 98 | n => n, fun | 46 => 105 | 3 => 3 | 51 => 120 | 53 => 122 | 4 => 4 | 5 => 5 | 9 => 9 | n => n, fun | n => n⟩
theorem Try.lays125 : Go.Proofs.Lays.n125 Try.prog Try.lays125_ren := {
  mixed := by kernel_rfl
  f125 := Try.func83.trans (congrArg some (by kernel_rfl))
  f128 := Try.func97.trans (congrArg some (by kernel_rfl))
  f129 := Try.func98.trans (congrArg some (by kernel_rfl))
  t3 := Try.underlying3
  a3 := Try.isAgg3
  z3 := Try.sizeOf3
  v3 := Try.zeroValue3
  t4 := Try.underlying4
  a4 := Try.isAgg4
  z4 := Try.sizeOf4
  v4 := Try.zeroValue4
  t5 := Try.underlying5
  a5 := Try.isAgg5
  z5 := Try.sizeOf5
  v5 := Try.zeroValue5
  t9 := Try.underlying9
  a9 := Try.isAgg9
  z9 := Try.sizeOf9
  v9 := Try.zeroValue9
  t46 := Try.underlying105
  a46 := Try.isAgg105
  z46 := Try.sizeOf105
  v46 := Try.zeroValue105
  t51 := Try.underlying120
  a51 := Try.isAgg120
  z51 := Try.sizeOf120
  v51 := Try.zeroValue120
  t53 := Try.underlying122
  a53 := Try.isAgg122
  z53 := Try.sizeOf122
  v53 := Try.zeroValue122 }
/-- bits.Len: "Len returns the minimum number of bits required to represent x; the result is 0 for x == 0.": IT RETURNS 'Lib.bitLen x'; the world is as it was. (A uint has 64 bits in the model.) ITS CALLEE bits.Len64 IS MET BY ITS OWN CONTRACT OFF THE SHELF (lay that first). (LAID: no walk: one application.) -/
theorem Try.bits_Len (x : Int) (w : World) (h0 : 0 ≤ x) (h1 : x ≤ 18446744073709551615) :
    Calls Try.prog 83 #[.int .u64 x] w fun e w' => e = .returned (.int .i64 (Lib.bitLen x.toNat)) ∧ w' = w := Any.bits_Len Try.lays125 x w h0 h1
def Try.lays137_ren : Go.Shelf.Ren := ⟨fun | 137 => 85 | 217 => 99 | 266 => 106 | n => n, fun | 9 => 9 | 5 => 5 | 3 => 3 | n => n, fun | n => n⟩
theorem Try.lays137 : Go.Proofs.Lays.n137 Try.prog Try.lays137_ren := {
  mixed := by kernel_rfl
  f137 := Try.func85.trans (congrArg some (by kernel_rfl))
  f217 := Try.func99.trans (congrArg some (by kernel_rfl))
  f266 := Try.func106.trans (congrArg some (by kernel_rfl))
  t3 := Try.underlying3
  a3 := Try.isAgg3
  z3 := Try.sizeOf3
  v3 := Try.zeroValue3
  t5 := Try.underlying5
  a5 := Try.isAgg5
  z5 := Try.sizeOf5
  v5 := Try.zeroValue5
  t9 := Try.underlying9
  a9 := Try.isAgg9
  z9 := Try.sizeOf9
  v9 := Try.zeroValue9 }
open Go.RowKit in
/-- strings.IndexByte: "IndexByte returns the index of the first instance of c in s, or -1 if c is not present in s.": IT RETURNS 'Lib.indexByte s c'; the world is as it was. (LAID: no walk: one application.) -/
theorem Try.strings_IndexByte (s : ByteArray) (c : Int) (w : World) :
    Calls Try.prog 85 #[.string s, .int .u8 c] w fun e w' => e = .returned (.int .i64 (Lib.indexByte s.data.toList c.toNat.toUInt8)) ∧ w' = w := Any.strings_IndexByte Try.lays137 s c w
def Try.lays215_ren : Go.Shelf.Ren := ⟨fun | 215 => 105 | n => n, fun | 3 => 3 | 4 => 4 | n => n, fun | n => n⟩
theorem Try.lays215 : Go.Proofs.Lays.n215 Try.prog Try.lays215_ren := {
  mixed := by kernel_rfl
  f215 := Try.func105.trans (congrArg some (by kernel_rfl))
  t3 := Try.underlying3
  a3 := Try.isAgg3
  z3 := Try.sizeOf3
  v3 := Try.zeroValue3
  t4 := Try.underlying4
  a4 := Try.isAgg4
  z4 := Try.sizeOf4
  v4 := Try.zeroValue4 }
open Go.RowKit in
/-- cmp.isNaN at int: 'x != x': false. (LAID: no walk: one application.) -/
theorem Try.cmp_isNaN_int (x : Int) (w : World) :
    Calls Try.prog 105 #[.int .i64 x] w fun e w' => e = .returned (.bool false) ∧ w' = w := Any.cmp_isNaN_int Try.lays215 x w
def Try.lays129_ren : Go.Shelf.Ren := ⟨fun | 129 => 98 | n => n, fun | 53 => 122 | 3 => 3 | 4 => 4 | 46 => 105 | 5 => 5 | 9 => 9 | n => n, fun | n => n⟩
theorem Try.lays129 : Go.Proofs.Lays.n129 Try.prog Try.lays129_ren := {
  mixed := by kernel_rfl
  f129 := Try.func98.trans (congrArg some (by kernel_rfl))
  t3 := Try.underlying3
  a3 := Try.isAgg3
  z3 := Try.sizeOf3
  v3 := Try.zeroValue3
  t4 := Try.underlying4
  a4 := Try.isAgg4
  z4 := Try.sizeOf4
  v4 := Try.zeroValue4
  t5 := Try.underlying5
  a5 := Try.isAgg5
  z5 := Try.sizeOf5
  v5 := Try.zeroValue5
  t9 := Try.underlying9
  a9 := Try.isAgg9
  z9 := Try.sizeOf9
  v9 := Try.zeroValue9
  t46 := Try.underlying105
  a46 := Try.isAgg105
  z46 := Try.sizeOf105
  v46 := Try.zeroValue105
  t53 := Try.underlying122
  a53 := Try.isAgg122
  z53 := Try.sizeOf122
  v53 := Try.zeroValue122 }
/-- bits.Len64: "Len64 returns the minimum number of bits required to represent x; the result is 0 for x == 0.": IT RETURNS 'Lib.bitLen x'; the world is as it was. ('h0', 'h1': x is a uint64.) (LAID: no walk: one application.) -/
theorem Try.bits_Len64 (x : Int) (w : World) (h0 : 0 ≤ x) (h1 : x ≤ 18446744073709551615) :
    Calls Try.prog 98 #[.int .u64 x] w fun e w' => e = .returned (.int .i64 (Lib.bitLen x.toNat)) ∧ w' = w := Any.bits_Len64 Try.lays129 x w h0 h1
def Try.lays217_ren : Go.Shelf.Ren := ⟨fun | 217 => 99 | 266 => 106 | n => n, fun | 9 => 9 | 5 => 5 | 3 => 3 | n => n, fun | n => n⟩
theorem Try.lays217 : Go.Proofs.Lays.n217 Try.prog Try.lays217_ren := {
  mixed := by kernel_rfl
  f217 := Try.func99.trans (congrArg some (by kernel_rfl))
  f266 := Try.func106.trans (congrArg some (by kernel_rfl))
  t3 := Try.underlying3
  a3 := Try.isAgg3
  z3 := Try.sizeOf3
  v3 := Try.zeroValue3
  t5 := Try.underlying5
  a5 := Try.isAgg5
  z5 := Try.sizeOf5
  v5 := Try.zeroValue5
  t9 := Try.underlying9
  a9 := Try.isAgg9
  z9 := Try.sizeOf9
  v9 := Try.zeroValue9 }
open Go.RowKit Go.Lib in
/-- internal/stringslite.IndexByte (what strings.IndexByte calls): IT RETURNS 'Lib.indexByte s c'; the world is as it was. (LAID: no walk: one application.) -/
theorem Try.stringslite_IndexByte (s : ByteArray) (c : Int) (w : World) :
    Calls Try.prog 99 #[.string s, .int .u8 c] w fun e w' => e = .returned (.int .i64 (Lib.indexByte s.data.toList c.toNat.toUInt8)) ∧ w' = w := Any.stringslite_IndexByte Try.lays217 s c w
def Try.lays189_ren : Go.Shelf.Ren := ⟨fun | 189 => 65 | 125 => 83 | 257 => 82 | 128 => 97 | 129 => 98 | 294 => 88 | 295 => 89 | 296 => 90 | 297 => 91 | 298 => 92 | 299 => 93 | 216 => 94 | 300 => 95 | 301 => 96 | 328 => 100 | 329 => 101 | 330 => 102 | 331 => 103 | 332 => 104 | 215 => 105 | 343 => 107 | n => n, fun | 28 => 22 | 3 => 3 | 46 => 105 | 0 => 0 | 51 => 120 | 53 => 122 | 4 => 4 | 183 => 112 | 182 => 111 | 131 => 117 | 5 => 5 | 9 => 9 | 218 => 123 | 222 => 127 | 228 => 129 | 229 => 130 | n => n, fun | n => n⟩
theorem Try.lays189 : Go.Proofs.Lays.n189 Try.prog Try.lays189_ren := {
  mixed := by kernel_rfl
  f125 := Try.func83.trans (congrArg some (by kernel_rfl))
  f128 := Try.func97.trans (congrArg some (by kernel_rfl))
  f129 := Try.func98.trans (congrArg some (by kernel_rfl))
  f189 := Try.func65.trans (congrArg some (by kernel_rfl))
  f215 := Try.func105.trans (congrArg some (by kernel_rfl))
  f216 := Try.func94.trans (congrArg some (by kernel_rfl))
  f257 := Try.func82.trans (congrArg some (by kernel_rfl))
  f294 := Try.func88.trans (congrArg some (by kernel_rfl))
  f295 := Try.func89.trans (congrArg some (by kernel_rfl))
  f296 := Try.func90.trans (congrArg some (by kernel_rfl))
  f297 := Try.func91.trans (congrArg some (by kernel_rfl))
  f298 := Try.func92.trans (congrArg some (by kernel_rfl))
  f299 := Try.func93.trans (congrArg some (by kernel_rfl))
  f300 := Try.func95.trans (congrArg some (by kernel_rfl))
  f301 := Try.func96.trans (congrArg some (by kernel_rfl))
  f328 := Try.func100.trans (congrArg some (by kernel_rfl))
  f329 := Try.func101.trans (congrArg some (by kernel_rfl))
  f330 := Try.func102.trans (congrArg some (by kernel_rfl))
  f331 := Try.func103.trans (congrArg some (by kernel_rfl))
  f332 := Try.func104.trans (congrArg some (by kernel_rfl))
  f343 := Try.func107.trans (congrArg some (by kernel_rfl))
  t0 := Try.underlying0
  a0 := Try.isAgg0
  z0 := Try.sizeOf0
  v0 := Try.zeroValue0
  t3 := Try.underlying3
  a3 := Try.isAgg3
  z3 := Try.sizeOf3
  v3 := Try.zeroValue3
  t4 := Try.underlying4
  a4 := Try.isAgg4
  z4 := Try.sizeOf4
  v4 := Try.zeroValue4
  t5 := Try.underlying5
  a5 := Try.isAgg5
  z5 := Try.sizeOf5
  v5 := Try.zeroValue5
  t9 := Try.underlying9
  a9 := Try.isAgg9
  z9 := Try.sizeOf9
  v9 := Try.zeroValue9
  t28 := Try.underlying22
  a28 := Try.isAgg22
  z28 := Try.sizeOf22
  v28 := Try.zeroValue22
  t46 := Try.underlying105
  a46 := Try.isAgg105
  z46 := Try.sizeOf105
  v46 := Try.zeroValue105
  t51 := Try.underlying120
  a51 := Try.isAgg120
  z51 := Try.sizeOf120
  v51 := Try.zeroValue120
  t53 := Try.underlying122
  a53 := Try.isAgg122
  z53 := Try.sizeOf122
  v53 := Try.zeroValue122
  t131 := Try.underlying117
  a131 := Try.isAgg117
  z131 := Try.sizeOf117
  v131 := Try.zeroValue117
  t182 := Try.underlying111
  a182 := Try.isAgg111
  z182 := Try.sizeOf111
  v182 := Try.zeroValue111
  t183 := Try.underlying112
  a183 := Try.isAgg112
  z183 := Try.sizeOf112
  v183 := Try.zeroValue112
  t218 := Try.underlying123
  a218 := Try.isAgg123
  z218 := Try.sizeOf123
  v218 := Try.zeroValue123
  t222 := Try.underlying127
  a222 := Try.isAgg127
  z222 := Try.sizeOf127
  v222 := Try.zeroValue127
  t228 := Try.underlying129
  a228 := Try.isAgg129
  z228 := Try.sizeOf129
  v228 := Try.zeroValue129
  t229 := Try.underlying130
  a229 := Try.isAgg130
  z229 := Try.sizeOf130
  v229 := Try.zeroValue130 }
open Go.Sort Go.RowKit in
theorem Try.slices_Sort_int (blk off cap : Nat) (zs : List Int) (w : World) (hH : Holds (Value.int .i64) w blk off zs.toArray) (hblk : blk < w.heap.size) (hsz : zs.length < 4611686018427387904) :
    Calls Try.prog 65 #[.slice (some ⟨blk, off, none⟩) zs.length cap] w fun e w' =>
      e = .returned (.tuple #[]) ∧ ∃ n os, w' = grow (putRow (Value.int .i64) (Sort.ahead w n) blk off (zs.mergeSort fun x y => decide (x ≤ y)).toArray) os := Any.slices_Sort_int Try.lays189 blk off cap zs w hH hblk hsz
def Try.lays108_ren : Go.Shelf.Ren := ⟨fun | 108 => 77 | n => n, fun | 28 => 22 | 3 => 3 | 0 => 0 | 4 => 4 | n => n, fun | n => n⟩
theorem Try.lays108 : Go.Proofs.Lays.n108 Try.prog Try.lays108_ren := {
  mixed := by kernel_rfl
  f108 := Try.func77.trans (congrArg some (by kernel_rfl))
  t0 := Try.underlying0
  a0 := Try.isAgg0
  z0 := Try.sizeOf0
  v0 := Try.zeroValue0
  t3 := Try.underlying3
  a3 := Try.isAgg3
  z3 := Try.sizeOf3
  v3 := Try.zeroValue3
  t4 := Try.underlying4
  a4 := Try.isAgg4
  z4 := Try.sizeOf4
  v4 := Try.zeroValue4
  t28 := Try.underlying22
  a28 := Try.isAgg22
  z28 := Try.sizeOf22
  v28 := Try.zeroValue22 }
open Go.Lib in
/-- slices.Index at []int: "Index returns the index of the first occurrence of v in s, or -1 if not present.": IT RETURNS 'Lib.idxOf (the elements) v'; the world is as it was. 'zs': what the cells behind the slice's address hold (its spare capacity too, if you have it); 'zs.take n': its elements. (LAID: no walk: one application.) -/
theorem Try.slices_Index_int (b off n c : Nat) (zs : List Int) (x : Int) (w : World) (hz : n ≤ zs.length) (hbig : n ≤ 9223372036854775807) (hc : ∀ j, j < zs.length → w.cell? ⟨b, off + j, none⟩ = some (.int .i64 (zs.getD j 0))) :
    Calls Try.prog 77 #[.slice (some ⟨b, off, none⟩) n c, .int .i64 x] w fun e w' => e = .returned (.int .i64 (Lib.idxOf (zs.take n) x)) ∧ w' = w := Any.slices_Index_int Try.lays108 b off n c zs x w hz hbig hc
open Go.Lib in
/-- The same at a slice of length 0, a nil one too: no cell is known, none is asked for. (LAID: no walk: one application.) -/
theorem Try.slices_Index_int_empty (a : Option Addr) (c : Nat) (x : Int) (w : World) :
    Calls Try.prog 77 #[.slice a 0 c, .int .i64 x] w fun e w' => e = .returned (.int .i64 (Lib.idxOf [] x)) ∧ w' = w := Any.slices_Index_int_empty Try.lays108 a c x w
def Try.lays107_ren : Go.Shelf.Ren := ⟨fun | 107 => 49 | 108 => 77 | n => n, fun | 28 => 22 | 3 => 3 | 4 => 4 | 0 => 0 | n => n, fun | n => n⟩
theorem Try.lays107 : Go.Proofs.Lays.n107 Try.prog Try.lays107_ren := {
  mixed := by kernel_rfl
  f107 := Try.func49.trans (congrArg some (by kernel_rfl))
  f108 := Try.func77.trans (congrArg some (by kernel_rfl))
  t0 := Try.underlying0
  a0 := Try.isAgg0
  z0 := Try.sizeOf0
  v0 := Try.zeroValue0
  t3 := Try.underlying3
  a3 := Try.isAgg3
  z3 := Try.sizeOf3
  v3 := Try.zeroValue3
  t4 := Try.underlying4
  a4 := Try.isAgg4
  z4 := Try.sizeOf4
  v4 := Try.zeroValue4
  t28 := Try.underlying22
  a28 := Try.isAgg22
  z28 := Try.sizeOf22
  v28 := Try.zeroValue22 }
open Go.Lib in
/-- slices.Contains at []int: "Contains reports whether v is present in s.": IT RETURNS 'elements.contains v'; the world is as it was. ITS CALLEE slices.Index IS MET BY ITS OWN CONTRACT OFF THE SHELF (lay that first): no loop is walked here. (LAID: no walk: one application.) -/
theorem Try.slices_Contains_int (b off n c : Nat) (zs : List Int) (x : Int) (w : World) (hz : n ≤ zs.length) (hbig : n ≤ 9223372036854775807) (hc : ∀ j, j < zs.length → w.cell? ⟨b, off + j, none⟩ = some (.int .i64 (zs.getD j 0))) :
    Calls Try.prog 49 #[.slice (some ⟨b, off, none⟩) n c, .int .i64 x] w fun e w' => e = .returned (.bool ((zs.take n).contains x)) ∧ w' = w := Any.slices_Contains_int Try.lays107 b off n c zs x w hz hbig hc
open Go.Lib in
/-- The same at a slice of length 0, a nil one too. (LAID: no walk: one application.) -/
theorem Try.slices_Contains_int_empty (a : Option Addr) (c : Nat) (x : Int) (w : World) :
    Calls Try.prog 49 #[.slice a 0 c, .int .i64 x] w fun e w' => e = .returned (.bool false) ∧ w' = w := Any.slices_Contains_int_empty Try.lays107 a c x w
def Try.lays109_ren : Go.Shelf.Ren := ⟨fun | 109 => 41 | n => n, fun | 31 => 26 | 9 => 9 | 3 => 3 | 0 => 0 | 4 => 4 | n => n, fun | n => n⟩
theorem Try.lays109 : Go.Proofs.Lays.n109 Try.prog Try.lays109_ren := {
  mixed := by kernel_rfl
  f109 := Try.func41.trans (congrArg some (by kernel_rfl))
  t0 := Try.underlying0
  a0 := Try.isAgg0
  z0 := Try.sizeOf0
  v0 := Try.zeroValue0
  t3 := Try.underlying3
  a3 := Try.isAgg3
  z3 := Try.sizeOf3
  v3 := Try.zeroValue3
  t4 := Try.underlying4
  a4 := Try.isAgg4
  z4 := Try.sizeOf4
  v4 := Try.zeroValue4
  t9 := Try.underlying9
  a9 := Try.isAgg9
  z9 := Try.sizeOf9
  v9 := Try.zeroValue9
  t31 := Try.underlying26
  a31 := Try.isAgg26
  z31 := Try.sizeOf26
  v31 := Try.zeroValue26 }
open Go.Lib in
/-- slices.Index at []string: "Index returns the index of the first occurrence of v in s, or -1 if not present.": IT RETURNS 'Lib.idxOfS (the elements) v'; the world is as it was. 'zs': what the cells behind the slice's address hold (its spare capacity too, if you have it); 'zs.take n': its elements. (LAID: no walk: one application.) -/
theorem Try.slices_Index_string (b off n c : Nat) (zs : List ByteArray) (x : ByteArray) (w : World) (hz : n ≤ zs.length) (hbig : n ≤ 9223372036854775807) (hc : ∀ j, j < zs.length → w.cell? ⟨b, off + j, none⟩ = some (.string (zs.getD j ByteArray.empty))) :
    Calls Try.prog 41 #[.slice (some ⟨b, off, none⟩) n c, .string x] w fun e w' => e = .returned (.int .i64 (Lib.idxOfS (zs.take n) x)) ∧ w' = w := Any.slices_Index_string Try.lays109 b off n c zs x w hz hbig hc
open Go.Lib in
/-- The same at a slice of length 0, a nil one too: no cell is known, none is asked for. (LAID: no walk: one application.) -/
theorem Try.slices_Index_string_empty (a : Option Addr) (c : Nat) (x : ByteArray) (w : World) :
    Calls Try.prog 41 #[.slice a 0 c, .string x] w fun e w' => e = .returned (.int .i64 (Lib.idxOfS [] x)) ∧ w' = w := Any.slices_Index_string_empty Try.lays109 a c x w
def Try.lays110_ren : Go.Shelf.Ren := ⟨fun | 110 => 46 | 109 => 41 | n => n, fun | 31 => 26 | 9 => 9 | 4 => 4 | 3 => 3 | 0 => 0 | n => n, fun | n => n⟩
theorem Try.lays110 : Go.Proofs.Lays.n110 Try.prog Try.lays110_ren := {
  mixed := by kernel_rfl
  f109 := Try.func41.trans (congrArg some (by kernel_rfl))
  f110 := Try.func46.trans (congrArg some (by kernel_rfl))
  t0 := Try.underlying0
  a0 := Try.isAgg0
  z0 := Try.sizeOf0
  v0 := Try.zeroValue0
  t3 := Try.underlying3
  a3 := Try.isAgg3
  z3 := Try.sizeOf3
  v3 := Try.zeroValue3
  t4 := Try.underlying4
  a4 := Try.isAgg4
  z4 := Try.sizeOf4
  v4 := Try.zeroValue4
  t9 := Try.underlying9
  a9 := Try.isAgg9
  z9 := Try.sizeOf9
  v9 := Try.zeroValue9
  t31 := Try.underlying26
  a31 := Try.isAgg26
  z31 := Try.sizeOf26
  v31 := Try.zeroValue26 }
open Go.Lib in
/-- slices.Contains at []string: "Contains reports whether v is present in s.": IT RETURNS 'Lib.containsS (the elements) v', which is true just where v is among them ('Lib.containsS_iff'); the world is as it was. ITS CALLEE slices.Index IS MET BY ITS OWN CONTRACT OFF THE SHELF (lay that first): no loop is walked here. (LAID: no walk: one application.) -/
theorem Try.slices_Contains_string (b off n c : Nat) (zs : List ByteArray) (x : ByteArray) (w : World) (hz : n ≤ zs.length) (hbig : n ≤ 9223372036854775807) (hc : ∀ j, j < zs.length → w.cell? ⟨b, off + j, none⟩ = some (.string (zs.getD j ByteArray.empty))) :
    Calls Try.prog 46 #[.slice (some ⟨b, off, none⟩) n c, .string x] w fun e w' => e = .returned (.bool (Lib.containsS (zs.take n) x)) ∧ w' = w := Any.slices_Contains_string Try.lays110 b off n c zs x w hz hbig hc
open Go.Lib in
/-- The same at a slice of length 0, a nil one too. (LAID: no walk: one application.) -/
theorem Try.slices_Contains_string_empty (a : Option Addr) (c : Nat) (x : ByteArray) (w : World) :
    Calls Try.prog 46 #[.slice a 0 c, .string x] w fun e w' => e = .returned (.bool false) ∧ w' = w := Any.slices_Contains_string_empty Try.lays110 a c x w
def Try.lays112_ren : Go.Shelf.Ren := ⟨fun | 112 => 66 | n => n, fun | 28 => 22 | 3 => 3 | 4 => 4 | 0 => 0 | n => n, fun | n => n⟩
theorem Try.lays112 : Go.Proofs.Lays.n112 Try.prog Try.lays112_ren := {
  mixed := by kernel_rfl
  f112 := Try.func66.trans (congrArg some (by kernel_rfl))
  t0 := Try.underlying0
  a0 := Try.isAgg0
  z0 := Try.sizeOf0
  v0 := Try.zeroValue0
  t3 := Try.underlying3
  a3 := Try.isAgg3
  z3 := Try.sizeOf3
  v3 := Try.zeroValue3
  t4 := Try.underlying4
  a4 := Try.isAgg4
  z4 := Try.sizeOf4
  v4 := Try.zeroValue4
  t28 := Try.underlying22
  a28 := Try.isAgg22
  z28 := Try.sizeOf22
  v28 := Try.zeroValue22 }
open Go.RowKit Go.Lib Go.Sort in
/-- slices.Reverse at []int, over an array: Go's loop from the two ends inward is walked; it makes 'Sort.reverseLoop 0 (len - 1)', which is 'Array.reverse' (Derived/Lib/SlicesMore.lean). (LAID: no walk: one application.) -/
theorem Try.slices_Reverse_int_arr (blk off cap : Nat) (d : Array Int) (w : World) (hH : Holds encI w blk off d) (hsz : d.size ≤ 9223372036854775807) :
    Calls Try.prog 66 #[.slice (some ⟨blk, off, none⟩) d.size cap] w fun e w' => e = .returned (.tuple #[]) ∧ ∃ n, w' = putRow encI (Sort.ahead w n) blk off d.reverse := Any.slices_Reverse_int_arr Try.lays112 blk off cap d w hH hsz
open Go.RowKit Go.Lib Go.Sort in
/-- slices.Reverse at []int: "Reverse reverses the elements of the slice in place.": THE SLICE's CELLS HOLD 'zs.reverse' BEHIND THE CALL; all else is as it was, but for the count of draws (the exchange 's[i], s[j] = s[j], s[i]' draws its order, once a round). IN THE WORDS OF slices.Sort's CONTRACT: 'Holds': the cells hold zs and none is frozen; 'putRow': the world with those cells holding another array. A slice of length 0 that is not nil is among them ('zs = []'); nil: '.._nil'. (LAID: no walk: one application.) -/
theorem Try.slices_Reverse_int (blk off cap : Nat) (zs : List Int) (w : World) (hH : Holds (Value.int .i64) w blk off zs.toArray) (hsz : zs.length ≤ 9223372036854775807) :
    Calls Try.prog 66 #[.slice (some ⟨blk, off, none⟩) zs.length cap] w fun e w' => e = .returned (.tuple #[]) ∧ ∃ n, w' = putRow (Value.int .i64) (Sort.ahead w n) blk off zs.reverse.toArray := Any.slices_Reverse_int Try.lays112 blk off cap zs w hH hsz
open Go.RowKit Go.Lib Go.Sort in
/-- The same at a slice of length 0, a nil one too: nothing is read, nothing written, nothing drawn. (LAID: no walk: one application.) -/
theorem Try.slices_Reverse_int_empty (a : Option Addr) (cap : Nat) (w : World) :
    Calls Try.prog 66 #[.slice a 0 cap] w fun e w' => e = .returned (.tuple #[]) ∧ w' = w := Any.slices_Reverse_int_empty Try.lays112 a cap w
def Try.lays193_ren : Go.Shelf.Ren := ⟨fun | 193 => 23 | n => n, fun | 31 => 26 | 9 => 9 | 4 => 4 | 3 => 3 | 0 => 0 | n => n, fun | n => n⟩
theorem Try.lays193 : Go.Proofs.Lays.n193 Try.prog Try.lays193_ren := {
  mixed := by kernel_rfl
  f193 := Try.func23.trans (congrArg some (by kernel_rfl))
  t0 := Try.underlying0
  a0 := Try.isAgg0
  z0 := Try.sizeOf0
  v0 := Try.zeroValue0
  t3 := Try.underlying3
  a3 := Try.isAgg3
  z3 := Try.sizeOf3
  v3 := Try.zeroValue3
  t4 := Try.underlying4
  a4 := Try.isAgg4
  z4 := Try.sizeOf4
  v4 := Try.zeroValue4
  t9 := Try.underlying9
  a9 := Try.isAgg9
  z9 := Try.sizeOf9
  v9 := Try.zeroValue9
  t31 := Try.underlying26
  a31 := Try.isAgg26
  z31 := Try.sizeOf26
  v31 := Try.zeroValue26 }
open Go.RowKit Go.Lib in
/-- slices.Equal at []string: "Equal reports whether two slices are equal: the same length and all elements equal. If the lengths are different, Equal returns false. Otherwise, the elements are compared in increasing index order, and the comparison stops at the first unequal pair. Empty and nil slices are considered equal.": IT RETURNS WHETHER THE TWO LISTS OF ELEMENTS ARE ONE; the world is as it was but for the count of draws (the test 's1[i] != s2[i]' has two reads, whose order the model draws, once a round). 'xs', 'ys': what the cells behind the two addresses hold (the spare capacity too, if you have it); 'xs.take n', 'ys.take m': the elements. THE TWO SLICES MAY OVERLAP. (LAID: no walk: one application.) -/
theorem Try.slices_Equal_string (b1 o1 n c b2 o2 m d : Nat) (xs ys : List ByteArray) (w : World) (hx : n ≤ xs.length) (hy : m ≤ ys.length) (hbig : n ≤ 9223372036854775807) (hbig2 : m ≤ 9223372036854775807) (hc1 : ∀ j, j < xs.length → w.cell? ⟨b1, o1 + j, none⟩ = some (.string (xs.getD j ByteArray.empty))) (hc2 : ∀ j, j < ys.length → w.cell? ⟨b2, o2 + j, none⟩ = some (.string (ys.getD j ByteArray.empty))) :
    Calls Try.prog 23 #[.slice (some ⟨b1, o1, none⟩) n c, .slice (some ⟨b2, o2, none⟩) m d] w fun e w' => e = .returned (.bool (decide (xs.take n = ys.take m))) ∧ ∃ q, w' = w.drewN q := Any.slices_Equal_string Try.lays193 b1 o1 n c b2 o2 m d xs ys w hx hy hbig hbig2 hc1 hc2
open Go.RowKit Go.Lib in
/-- The same where the first is of length 0 (a nil one too): no cell is asked for. (LAID: no walk: one application.) -/
theorem Try.slices_Equal_string_empty (a1 a2 : Option Addr) (c m d : Nat) (w : World) (hbig2 : m ≤ 9223372036854775807) :
    Calls Try.prog 23 #[.slice a1 0 c, .slice a2 m d] w fun e w' => e = .returned (.bool (decide (m = 0))) ∧ w' = w := Any.slices_Equal_string_empty Try.lays193 a1 a2 c m d w hbig2
def Try.laysNm217_ren : Go.Shelf.Ren := ⟨fun | 17 => 67 | n => n, fun | 24 => 26 | 9 => 9 | 3 => 3 | 4 => 4 | 0 => 0 | n => n, fun | n => n⟩
theorem Try.laysNm217 : Go.Proofs.Lays2.n17 Try.prog Try.laysNm217_ren := {
  mixed := by kernel_rfl
  f17 := Try.func67.trans (congrArg some (by kernel_rfl))
  t0 := Try.underlying0
  a0 := Try.isAgg0
  z0 := Try.sizeOf0
  v0 := Try.zeroValue0
  t3 := Try.underlying3
  a3 := Try.isAgg3
  z3 := Try.sizeOf3
  v3 := Try.zeroValue3
  t4 := Try.underlying4
  a4 := Try.isAgg4
  z4 := Try.sizeOf4
  v4 := Try.zeroValue4
  t9 := Try.underlying9
  a9 := Try.isAgg9
  z9 := Try.sizeOf9
  v9 := Try.zeroValue9
  t24 := Try.underlying26
  a24 := Try.isAgg26
  z24 := Try.sizeOf26
  v24 := Try.zeroValue26 }
open Go.RowKit Go.Lib Go.Sort in
/-- slices.Reverse at []string, over an array: Go's loop from the two ends inward is walked; it makes 'Sort.reverseLoop 0 (len - 1)', which is 'Array.reverse' (Derived/Lib/SlicesMore.lean). (LAID: no walk: one application.) -/
theorem Try.slices_Reverse_string_arr (blk off cap : Nat) (d : Array (List UInt8)) (w : World) (hH : Holds encStr w blk off d) (hsz : d.size ≤ 9223372036854775807) :
    Calls Try.prog 67 #[.slice (some ⟨blk, off, none⟩) d.size cap] w fun e w' => e = .returned (.tuple #[]) ∧ ∃ n, w' = putRow encStr (Sort.ahead w n) blk off d.reverse := Any.slices_Reverse_string_arr Try.laysNm217 blk off cap d w hH hsz
open Go.RowKit Go.Lib Go.Sort in
/-- slices.Reverse at []string: "Reverse reverses the elements of the slice in place.": THE SLICE's CELLS HOLD 'zs.reverse' BEHIND THE CALL; all else is as it was, but for the count of draws (the exchange 's[i], s[j] = s[j], s[i]' draws its order, once a round). IN THE WORDS OF slices.Sort's CONTRACT: 'Holds': the cells hold zs and none is frozen; 'putRow': the world with those cells holding another array. A slice of length 0 that is not nil is among them ('zs = []'); nil: '.._nil'. (LAID: no walk: one application.) -/
theorem Try.slices_Reverse_string (blk off cap : Nat) (zs : List (List UInt8)) (w : World) (hH : Holds encStr w blk off zs.toArray) (hsz : zs.length ≤ 9223372036854775807) :
    Calls Try.prog 67 #[.slice (some ⟨blk, off, none⟩) zs.length cap] w fun e w' => e = .returned (.tuple #[]) ∧ ∃ n, w' = putRow encStr (Sort.ahead w n) blk off zs.reverse.toArray := Any.slices_Reverse_string Try.laysNm217 blk off cap zs w hH hsz
open Go.RowKit Go.Lib Go.Sort in
/-- The same at a slice of length 0, a nil one too: nothing is read, nothing written, nothing drawn. (LAID: no walk: one application.) -/
theorem Try.slices_Reverse_string_empty (a : Option Addr) (cap : Nat) (w : World) :
    Calls Try.prog 67 #[.slice a 0 cap] w fun e w' => e = .returned (.tuple #[]) ∧ w' = w := Any.slices_Reverse_string_empty Try.laysNm217 a cap w
def Try.laysNm215_ren : Go.Shelf.Ren := ⟨fun | 15 => 51 | n => n, fun | 22 => 22 | 3 => 3 | 4 => 4 | n => n, fun | n => n⟩
theorem Try.laysNm215 : Go.Proofs.Lays2.n15 Try.prog Try.laysNm215_ren := {
  mixed := by kernel_rfl
  f15 := Try.func51.trans (congrArg some (by kernel_rfl))
  t3 := Try.underlying3
  a3 := Try.isAgg3
  z3 := Try.sizeOf3
  v3 := Try.zeroValue3
  t4 := Try.underlying4
  a4 := Try.isAgg4
  z4 := Try.sizeOf4
  v4 := Try.zeroValue4
  t22 := Try.underlying22
  a22 := Try.isAgg22
  z22 := Try.sizeOf22
  v22 := Try.zeroValue22
  i3 := by kernel_rfl }
open Go.RowKit Go.Lib in
/-- slices.Clone at []int: "Clone returns a copy of the slice. The elements are copied using assignment, so this is a shallow clone. The result may have additional unused capacity. The result preserves the nilness of s.": OF A SLICE THAT IS NOT nil IT RETURNS A SLICE THAT IS NOT nil, OF THE SAME ELEMENTS, IN MEMORY OF THE CALL's OWN: in the how-to's words (6f): 'w'.ownsRow B e 1 v' n cells': v' begins at the head of a row among the blocks from B on (B: the heap's size at the call), not frozen, whose first cells are the elements · 'Below B w w'': below B all is as it was. The capacity is whatever the run-time gives. 'zs': what the cells behind the slice's address hold; 'zs.take n': its elements. (LAID: no walk: one application.) -/
theorem Try.slices_Clone_int (b off n c : Nat) (zs : List Int) (w : World) (hz : n ≤ zs.length) (hbig : n * 8 ≤ 140737488355328) (hc : ∀ j, j < zs.length → w.cell? ⟨b, off + j, none⟩ = some (.int .i64 (zs.getD j 0))) :
    Calls Try.prog 51 #[.slice (some ⟨b, off, none⟩) n c] w fun e w' => ∃ v', e = .returned v' ∧ w'.ownsRow w.heap.size 3 1 v' n ((zs.take n).map (Value.int .i64)) ∧ v' ≠ .slice none 0 0 ∧ Below w.heap.size w w' := Any.slices_Clone_int Try.laysNm215 b off n c zs w hz hbig hc
open Go.RowKit Go.Lib in
/-- The same at nil: nil comes back; the world is as it was. (LAID: no walk: one application.) -/
theorem Try.slices_Clone_int_nil (n c : Nat) (w : World) :
    Calls Try.prog 51 #[.slice none n c] w fun e w' => e = .returned (.slice none 0 0) ∧ w' = w := Any.slices_Clone_int_nil Try.laysNm215 n c w
def Try.laysNm216_ren : Go.Shelf.Ren := ⟨fun | 16 => 25 | n => n, fun | 24 => 26 | 9 => 9 | 4 => 4 | n => n, fun | n => n⟩
theorem Try.laysNm216 : Go.Proofs.Lays2.n16 Try.prog Try.laysNm216_ren := {
  mixed := by kernel_rfl
  f16 := Try.func25.trans (congrArg some (by kernel_rfl))
  t4 := Try.underlying4
  a4 := Try.isAgg4
  z4 := Try.sizeOf4
  v4 := Try.zeroValue4
  t9 := Try.underlying9
  a9 := Try.isAgg9
  z9 := Try.sizeOf9
  v9 := Try.zeroValue9
  t24 := Try.underlying26
  a24 := Try.isAgg26
  z24 := Try.sizeOf26
  v24 := Try.zeroValue26
  i9 := by kernel_rfl }
open Go.RowKit Go.Lib in
/-- slices.Clone at []string: "Clone returns a copy of the slice. The elements are copied using assignment, so this is a shallow clone. The result may have additional unused capacity. The result preserves the nilness of s.": OF A SLICE THAT IS NOT nil IT RETURNS A SLICE THAT IS NOT nil, OF THE SAME ELEMENTS, IN MEMORY OF THE CALL's OWN: in the how-to's words (6f): 'w'.ownsRow B e 1 v' n cells': v' begins at the head of a row among the blocks from B on (B: the heap's size at the call), not frozen, whose first cells are the elements · 'Below B w w'': below B all is as it was. The capacity is whatever the run-time gives. 'zs': what the cells behind the slice's address hold; 'zs.take n': its elements. (LAID: no walk: one application.) -/
theorem Try.slices_Clone_string (b off n c : Nat) (zs : List ByteArray) (w : World) (hz : n ≤ zs.length) (hbig : n * 16 ≤ 140737488355328) (hc : ∀ j, j < zs.length → w.cell? ⟨b, off + j, none⟩ = some (.string (zs.getD j ByteArray.empty))) :
    Calls Try.prog 25 #[.slice (some ⟨b, off, none⟩) n c] w fun e w' => ∃ v', e = .returned v' ∧ w'.ownsRow w.heap.size 9 1 v' n ((zs.take n).map (Value.string)) ∧ v' ≠ .slice none 0 0 ∧ Below w.heap.size w w' := Any.slices_Clone_string Try.laysNm216 b off n c zs w hz hbig hc
open Go.RowKit Go.Lib in
/-- The same at nil: nil comes back; the world is as it was. (LAID: no walk: one application.) -/
theorem Try.slices_Clone_string_nil (n c : Nat) (w : World) :
    Calls Try.prog 25 #[.slice none n c] w fun e w' => e = .returned (.slice none 0 0) ∧ w' = w := Any.slices_Clone_string_nil Try.laysNm216 n c w
open Go.RowKit Go.Lib in
/-- The same at a slice of length 0 that is not nil, WHATEVER ITS ADDRESS (no cell is asked for): a slice that is not nil and owns nothing comes back. (LAID: no walk: one application.) -/
theorem Try.slices_Clone_int_zero (a : Addr) (c : Nat) (w : World) :
    Calls Try.prog 51 #[.slice (some a) 0 c] w fun e w' => ∃ v', e = .returned v' ∧ w'.ownsRow w.heap.size 3 1 v' 0 [] ∧ v' ≠ .slice none 0 0 ∧ Below w.heap.size w w' := Any.slices_Clone_int_zero Try.laysNm215 a c w
open Go.RowKit Go.Lib in
/-- The same at a slice of length 0 that is not nil, WHATEVER ITS ADDRESS (no cell is asked for): a slice that is not nil and owns nothing comes back. (LAID: no walk: one application.) -/
theorem Try.slices_Clone_string_zero (a : Addr) (c : Nat) (w : World) :
    Calls Try.prog 25 #[.slice (some a) 0 c] w fun e w' => ∃ v', e = .returned v' ∧ w'.ownsRow w.heap.size 9 1 v' 0 [] ∧ v' ≠ .slice none 0 0 ∧ Below w.heap.size w w' := Any.slices_Clone_string_zero Try.laysNm216 a c w
def Try.laysNm237_ren : Go.Shelf.Ren := ⟨fun | 37 => 105 | n => n, fun | 3 => 3 | 4 => 4 | n => n, fun | n => n⟩
theorem Try.laysNm237 : Go.Proofs.Lays2.n37 Try.prog Try.laysNm237_ren := {
  mixed := by kernel_rfl
  f37 := Try.func105.trans (congrArg some (by kernel_rfl))
  t3 := Try.underlying3
  a3 := Try.isAgg3
  z3 := Try.sizeOf3
  v3 := Try.zeroValue3
  t4 := Try.underlying4
  a4 := Try.isAgg4
  z4 := Try.sizeOf4
  v4 := Try.zeroValue4 }
open Go.RowKit Go.Lib in
/-- cmp.isNaN[int]: 'x != x': false. (LAID: no walk: one application.) -/
theorem Try.cmp_isNaN_int2 (x : Int) (w : World) :
    Calls Try.prog 105 #[.int .i64 x] w fun e w' => e = .returned (.bool false) ∧ w' = w := Any.cmp_isNaN_int2 Try.laysNm237 x w
def Try.laysNm231_ren : Go.Shelf.Ren := ⟨fun | 31 => 94 | 37 => 105 | n => n, fun | 3 => 3 | 4 => 4 | n => n, fun | n => n⟩
theorem Try.laysNm231 : Go.Proofs.Lays2.n31 Try.prog Try.laysNm231_ren := {
  mixed := by kernel_rfl
  f31 := Try.func94.trans (congrArg some (by kernel_rfl))
  f37 := Try.func105.trans (congrArg some (by kernel_rfl))
  t3 := Try.underlying3
  a3 := Try.isAgg3
  z3 := Try.sizeOf3
  v3 := Try.zeroValue3
  t4 := Try.underlying4
  a4 := Try.isAgg4
  z4 := Try.sizeOf4
  v4 := Try.zeroValue4 }
open Go.RowKit Go.Lib in
/-- cmp.Less[int]: "Less reports whether x is less than y.": 'x < y'; the world is as it was. (LAID: no walk: one application.) -/
theorem Try.cmp_Less_int2 (x y : Int) (w : World) :
    Calls Try.prog 94 #[.int .i64 x, .int .i64 y] w fun e w' => e = .returned (.bool (decide (x < y))) ∧ w' = w := Any.cmp_Less_int2 Try.laysNm231 x y w
open Go.RowKit Go.Lib Go.Sort in
/-- slices.Reverse at []int, of an argument: the n cells hold the elements in reverse. (LAID: no walk: one application.) -/
theorem Try.slices_Reverse_int_cells (b off n c : Nat) (zs : List Int) (w : World) (hz : n ≤ zs.length) (hbig : n ≤ 9223372036854775807) (hc : ∀ j, j < zs.length → w.cell? ⟨b, off + j, none⟩ = some (.int .i64 (zs.getD j 0))) (hf : ∀ j, j < n → w.frozen? ⟨b, off + j, none⟩ = false) :
    Calls Try.prog 66 #[.slice (some ⟨b, off, none⟩) n c] w fun e w' => e = .returned (.tuple #[]) ∧ ∃ q, w' = (w.drewN q).setCells b off ((zs.take n).reverse.map (Value.int .i64)) := Any.slices_Reverse_int_cells Try.lays112 b off n c zs w hz hbig hc hf
open Go.RowKit Go.Lib Go.Sort in
/-- slices.Reverse at []string, of an argument. (LAID: no walk: one application.) -/
theorem Try.slices_Reverse_string_cells (b off n c : Nat) (Sx : Nat → ByteArray) (w : World) (hbig : n ≤ 9223372036854775807) (hc : ∀ i, i < n → w.cell? ⟨b, off + i, none⟩ = some (.string (Sx i))) (hf : ∀ j, j < n → w.frozen? ⟨b, off + j, none⟩ = false) :
    Calls Try.prog 67 #[.slice (some ⟨b, off, none⟩) n c] w fun e w' => e = .returned (.tuple #[]) ∧ ∃ q, w' = (w.drewN q).setCells b off ((Lib.strsOf Sx n).reverse.map encStr) := Any.slices_Reverse_string_cells Try.laysNm217 b off n c Sx w hbig hc hf
open Go.RowKit Go.Sort in
/-- .. and plain. (LAID: no walk: one application.) -/
theorem Try.slices_Sort_int_none (p : Option Addr) (cap : Nat) (w : World) :
    Calls Try.prog 65 #[.slice p 0 cap] w fun e w' => e = .returned (.tuple #[]) ∧ w' = w := Any.slices_Sort_int_none Try.lays189 p cap w
open Go.RowKit Go.Lib in
theorem Try.slices_Equal_string_lens (a1 a2 : Option Addr) (n c m d : Nat) (w : World) (hnm : n ≠ m) :
    Calls Try.prog 23 #[.slice a1 n c, .slice a2 m d] w fun e w' => e = .returned (.bool false) ∧ w' = w := Any.slices_Equal_string_lens Try.lays193 a1 a2 n c m d w hnm
end Go.Proofs
/-
  Keys: the program's and the reference's look at a string. Condition: the string is no longer than any string of Go.
-/
set_option linter.unusedVariables false
namespace Go.Proofs.Ytkdimgghljklmaa
open Go.RowKit Go.Bw

def lowc (c : UInt8) : Bool := decide (97 ≤ c.toNat ∧ c.toNat ≤ 122)
def okc (c : UInt8) : Bool := decide ((97 ≤ c.toNat ∧ c.toNat ≤ 122) ∨ (48 ≤ c.toNat ∧ c.toNat ≤ 57) ∨ c.toNat = 45 ∨ c.toNat = 95)
def keyL (l : List UInt8) : Bool := match l with
  | [] => false
  | c :: _ => decide (l.length ≤ 40) && (lowc c && l.all okc)
def keyB (s : ByteArray) : Bool := keyL s.data.toList


theorem list_of (s : ByteArray) (h : 0 < s.size) : ∃ t, s.data.toList = s[0] :: t := by
  have hl : 0 < s.data.toList.length := by simpa using h
  refine ⟨s.data.toList.tail, ?_⟩
  cases hx : s.data.toList with
  | nil => rw [hx] at hl; simp at hl
  | cons c t =>
    have : s[0] = s.data.toList[0]'hl := rfl
    rw [this]
    simp [hx]

theorem keyB_empty {s : ByteArray} (h : s.size = 0) : keyB s = false := by
  have : s.data.toList.length = 0 := by simpa using h
  have := List.length_eq_zero_iff.1 this
  simp [keyB, keyL, this]
theorem keyB_long {s : ByteArray} (h : 40 < s.size) : keyB s = false := by
  obtain ⟨t, ht⟩ := list_of s (by omega)
  have hl : s.data.toList.length = s.size := by simp
  rw [ht] at hl
  simp only [keyB, keyL, ht]
  simp [hl]; omega
theorem keyB_low {s : ByteArray} (h : 0 < s.size) (hc : lowc s[0] = false) : keyB s = false := by
  obtain ⟨t, ht⟩ := list_of s h
  simp only [keyB, keyL, ht]
  simp [hc]
theorem keyB_bad {s : ByteArray} (k : Nat) (h : k < s.size) (hc : okc s[k] = false) : keyB s = false := by
  obtain ⟨t, ht⟩ := list_of s (by omega)
  have hm : s[k] ∈ s.data.toList := by
    have : s[k] = s.data.toList[k]'(by simpa using h) := rfl
    rw [this]
    exact List.getElem_mem _
  have ha : s.data.toList.all okc = false := by
    rw [List.all_eq_false]
    exact ⟨_, hm, by simp [hc]⟩
  rw [ht] at ha
  simp only [keyB, keyL, ht, ha]
  simp
theorem keyB_good {s : ByteArray} (h0 : 0 < s.size) (h : s.size ≤ 40) (hc : lowc s[0] = true) (ha : ∀ (k : Nat) (hk : k < s.size), okc s[k] = true) : keyB s = true := by
  obtain ⟨t, ht⟩ := list_of s h0
  have hl : s.data.toList.length = s.size := by simp
  have hall : s.data.toList.all okc = true := by
    rw [List.all_eq_true]
    intro x hx
    obtain ⟨k, hk, rfl⟩ := List.getElem_of_mem hx
    exact ha k (by simpa using hk)
  rw [ht] at hl hall
  simp only [keyB, keyL, ht, hall]
  simp [hc, hl, h]

/-- All bytes before k are those of a key. -/
def OkTo (s : ByteArray) (k : Nat) : Prop := ∀ (j : Nat) (hj : j < s.size), j < k → okc s[j] = true
theorem OkTo.zero (s : ByteArray) : OkTo s 0 := fun _ _ h => by omega
theorem OkTo.step {s : ByteArray} {k : Nat} (h : OkTo s k) (hk : k < s.size) (hc : okc s[k] = true) : OkTo s (k + 1) := fun j hj h1 => by
  by_cases e : j = k
  · subst e; exact hc
  · exact h j hj (by omega)

theorem okc_cases (c : UInt8) : okc c = true ↔ (97 ≤ (c.toNat : Int) ∧ (c.toNat : Int) ≤ 122) ∨ (48 ≤ (c.toNat : Int) ∧ (c.toNat : Int) ≤ 57) ∨ (c.toNat : Int) = 45 ∨ (c.toNat : Int) = 95 := by
  simp [okc]; omega

set_option maxRecDepth 100000 in
set_option maxHeartbeats 1000000 in
theorem key_prog (s : ByteArray) (w : World) (hs : s.size ≤ 9223372036854775807) :
    Calls Try.prog 53 #[.string s] w fun e w' => e = .returned (.bool (keyB s)) ∧ w = w' := by
  by_cases h0 : s.size = 0
  · have hl : s.toList = [] := by
      have : s.data.toList.length = 0 := by simpa using h0
      have := List.length_eq_zero_iff.1 this
      simpa [ByteArray.toList_eq] using this
    have hk := Lib.hid (keyB_empty h0)
    clear h0
    go_enter Try.func53, Try.ntmps53
    go_wp2_with fail
    go_ret
    exact ⟨ret_bool hk.out.symm, rfl⟩
  · have hpos : 0 < s.size := by omega
    have hl1 : s.toList.isEmpty = false := by
      have : s.data.toList.length ≠ 0 := by simpa using h0
      have : s.data.toList ≠ [] := fun e => this (by rw [e]; rfl)
      simpa [ByteArray.toList_eq] using this
    have hl2 : (!s.toList.isEmpty) = true := by rw [hl1]; rfl
    clear h0
    by_cases h40 : 40 < s.size
    · have hk := Lib.hid (keyB_long h40)
      go_enter Try.func53, Try.ntmps53
      go_wp2_with fail
      go_ret
      exact ⟨ret_bool hk.out.symm, rfl⟩
    · by_cases hc1 : (s[0].toNat : Int) < 97
      · have hk := Lib.hid (keyB_low hpos (by simp [lowc]; omega))
        go_enter Try.func53, Try.ntmps53
        go_wp2_with fail
        go_ret
        exact ⟨ret_bool hk.out.symm, rfl⟩
      · by_cases hc2 : 122 < (s[0].toNat : Int)
        · have hk := Lib.hid (keyB_low hpos (by simp [lowc]; omega))
          go_enter Try.func53, Try.ntmps53
          go_wp2_with fail
          go_ret
          exact ⟨ret_bool hk.out.symm, rfl⟩
        · have hlow := Lib.hid (show lowc s[0] = true by simp [lowc]; omega)
          go_enter Try.func53, Try.ntmps53
          go_wp2_with fail
          go_loop [24] (fun i => ∃ k : Nat, k ≤ s.size ∧ OkTo s k ∧ i = .int .i64 k) (fun i => s.size - (intOf i).toNat)
          case atStart => exact ⟨0, by omega, OkTo.zero s, rfl⟩
          case round =>
            obtain ⟨k, hk, hok, rfl⟩ := hrel
            by_cases hlt : k < s.size
            · by_cases hb : okc s[k] = true
              · have hst := Lib.hid (hok.step hlt hb)
                have hb' := (okc_cases _).1 hb
                clear hb
                have hc : (∃ e1 : ((s[k].toNat : Int) == 45) = false, ∃ e2 : ((s[k].toNat : Int) == 95) = false, 97 ≤ (s[k].toNat : Int) ∧ (s[k].toNat : Int) ≤ 122) ∨
                    (∃ e1 : ((s[k].toNat : Int) == 45) = false, ∃ e2 : ((s[k].toNat : Int) == 95) = false, 48 ≤ (s[k].toNat : Int) ∧ (s[k].toNat : Int) ≤ 57) ∨
                    (∃ e1 : ((s[k].toNat : Int) == 45) = true, ∃ e2 : ((s[k].toNat : Int) == 95) = false, 45 ≤ (s[k].toNat : Int) ∧ (s[k].toNat : Int) ≤ 46) ∨
                    (∃ e1 : ((s[k].toNat : Int) == 45) = false, ∃ e2 : ((s[k].toNat : Int) == 95) = true, 94 ≤ (s[k].toNat : Int) ∧ (s[k].toNat : Int) ≤ 95) := by
                  rcases hb' with ⟨h1, h2⟩ | ⟨h1, h2⟩ | h1 | h1
                  · exact .inl ⟨by simp; omega, by simp; omega, h1, h2⟩
                  · exact .inr (.inl ⟨by simp; omega, by simp; omega, h1, h2⟩)
                  · exact .inr (.inr (.inl ⟨by simp; omega, by simp; omega, by omega, by omega⟩))
                  · exact .inr (.inr (.inr ⟨by simp; omega, by simp; omega, by omega, by omega⟩))
                clear hb'
                rcases hc with ⟨e1, e2, h1, h2⟩ | ⟨e1, e2, h1, h2⟩ | ⟨e1, e2, h1, h2⟩ | ⟨e1, e2, h1, h2⟩
                all_goals
                  go_wp2_with fail
                  go_round
                  case rel => exact ⟨k + 1, by omega, hst.out, by go_num⟩
                  case measure => simp [intOf]; omega
              · have hkb := Lib.hid (keyB_bad k hlt (by simpa using hb))
                have hb' := mt (okc_cases _).2 hb
                have e1 : ((s[k].toNat : Int) == 45) = false := by simp; omega
                have e2 : ((s[k].toNat : Int) == 95) = false := by simp; omega
                have hc : (s[k].toNat : Int) < 48 ∨ (∃ e3 : decide ((s[k].toNat : Int) ≤ 57) = false, 57 < (s[k].toNat : Int) ∧ (s[k].toNat : Int) < 97) ∨ (∃ e3 : decide ((s[k].toNat : Int) ≤ 57) = false, ∃ e4 : decide ((s[k].toNat : Int) ≤ 122) = false, 122 < (s[k].toNat : Int)) := by
                  by_cases a1 : (s[k].toNat : Int) < 48
                  · exact .inl a1
                  · have e3 : decide ((s[k].toNat : Int) ≤ 57) = false := by simp; omega
                    by_cases a2 : 122 < (s[k].toNat : Int)
                    · exact .inr (.inr ⟨e3, by simp; omega, a2⟩)
                    · exact .inr (.inl ⟨e3, by omega, by omega⟩)
                clear hb hb'
                rcases hc with h1 | ⟨e3, h1, h2⟩ | ⟨e3, e4, h1⟩
                all_goals
                  go_wp2_with fail
                  go_ret
                  exact ⟨ret_bool hkb.out.symm, rfl⟩
            · have hkg := Lib.hid (keyB_good hpos (by omega) hlow.out (fun j hj => hok j hj (by omega)))
              go_wp2_with fail
              go_ret
              exact ⟨ret_bool hkg.out.symm, rfl⟩

theorem out_no {n low high : Int} (h : outB n low high = false) : low ≤ n ∧ n ≤ high := by
  simp [outB] at h; omega
theorem toList_ne {a b : ByteArray} (h : a ≠ b) : (a.toList == b.toList) = false := by
  cases hq : (a.toList == b.toList)
  · rfl
  · have he : a.toList = b.toList := by simpa using hq
    rw [ByteArray.toList_eq, ByteArray.toList_eq] at he
    exact absurd (by cases a; cases b; simp at he; rw [he]) h
/-- All bytes of the one string are among those of the other. -/
def onlyB (s : ByteArray) (some : List UInt8) : Bool := s.data.toList.all fun c => some.contains c

def InTo (s : ByteArray) (l : List UInt8) (k : Nat) : Prop := ∀ (j : Nat) (hj : j < s.size), j < k → l.contains s[j] = true
theorem InTo.step {s : ByteArray} {l : List UInt8} {k : Nat} (h : InTo s l k) (hk : k < s.size) (hc : l.contains s[k] = true) : InTo s l (k + 1) := fun j hj h1 => by
  by_cases e : j = k
  · subst e; exact hc
  · exact h j hj (by omega)
theorem onlyB_bad {s : ByteArray} {l : List UInt8} (k : Nat) (h : k < s.size) (hc : l.contains s[k] = false) : onlyB s l = false := by
  have hm : s[k] ∈ s.data.toList := by
    have : s[k] = s.data.toList[k]'(by simpa using h) := rfl
    rw [this]
    exact List.getElem_mem _
  unfold onlyB
  rw [List.all_eq_false]
  exact ⟨_, hm, by simp only [hc]; decide⟩
theorem onlyB_good {s : ByteArray} {l : List UInt8} (ha : InTo s l s.size) : onlyB s l = true := by
  unfold onlyB
  rw [List.all_eq_true]
  intro x hx
  obtain ⟨k, hk, rfl⟩ := List.getElem_of_mem hx
  exact ha k (by simpa using hk) (by simpa using hk)

set_option maxRecDepth 100000 in
set_option maxHeartbeats 1000000 in
theorem only_any (s some : ByteArray) (w : World) (hs : s.size ≤ 9223372036854775807) :
    Calls Try.prog 76 #[.string s, .string some] w fun e w' => e = .returned (.bool (onlyB s some.data.toList)) ∧ w = w' := by
  go_enter Try.func76, Try.ntmps76
  go_wp2_with fail
  go_loop [8] (fun i => ∃ k : Nat, k ≤ s.size ∧ InTo s some.data.toList k ∧ i = .int .i64 k) (fun i => s.size - (intOf i).toNat)
  case atStart => exact ⟨0, by omega, fun _ _ h => by omega, rfl⟩
  case round =>
    obtain ⟨k, hk, hok, rfl⟩ := hrel
    by_cases hlt : k < s.size
    · have hcon := Lib.contains_iff_indexByte some.data.toList s[k]
      cases hb : some.data.toList.contains s[k]
      · have hkb := Lib.hid (onlyB_bad k hlt hb)
        rw [hb] at hcon
        have hneg : Lib.indexByte some.data.toList s[k] < 0 := by
          have := of_decide_eq_false hcon.symm
          omega
        clear hb hcon
        go_wp2_with (go_at_call 85; refine (Try.strings_IndexByte _ _ _).mono ?_; rintro e w1 ⟨rfl, rfl⟩)
        go_ret
        exact ⟨ret_bool hkb.out.symm, rfl⟩
      · have hst := Lib.hid (hok.step hlt hb)
        rw [hb] at hcon
        have hpos : 0 ≤ Lib.indexByte some.data.toList s[k] := of_decide_eq_true hcon.symm
        clear hb hcon
        go_wp2_with (go_at_call 85; refine (Try.strings_IndexByte _ _ _).mono ?_; rintro e w1 ⟨rfl, rfl⟩)
        go_round
        case rel => exact ⟨k + 1, by omega, hst.out, by go_num⟩
        case measure => simp [intOf]; omega
    · have hkg := Lib.hid (onlyB_good (s := s) (l := some.data.toList) (fun j hj _ => hok j hj (by omega)))
      go_wp2_with fail
      go_ret
      exact ⟨ret_bool hkg.out.symm, rfl⟩

def smalls : List UInt8 := [97, 98, 99, 100, 101, 102, 103, 104, 105, 106, 107, 108, 109, 110, 111, 112, 113, 114, 115, 116, 117, 118, 119, 120, 121, 122]
def keyc : List UInt8 := smalls ++ [48, 49, 50, 51, 52, 53, 54, 55, 56, 57, 45, 95]
theorem all_bytes (p : UInt8 → Bool) (h : (List.range 256).all (fun n => p n.toUInt8) = true) (c : UInt8) : p c = true := by
  have := List.all_eq_true.1 h c.toNat (by simpa using c.toNat_lt)
  simpa using this
theorem smalls_c (c : UInt8) : smalls.contains c = lowc c := by
  have := all_bytes (fun c => smalls.contains c == lowc c) (by decide +kernel) c
  simpa using this
theorem keyc_c (c : UInt8) : keyc.contains c = okc c := by
  have := all_bytes (fun c => keyc.contains c == okc c) (by decide +kernel) c
  simpa using this

theorem onlyB_head {s : ByteArray} (h : 0 < s.size) : onlyB (s.extract 0 1) smalls = lowc s[0] := by
  obtain ⟨t, ht⟩ := list_of s h
  have : (s.extract 0 1).data.toList = [s[0]] := by
    rw [Lib.extract_data, ht]
    simp
  unfold onlyB
  rw [this]
  show (smalls.contains s[0] && true) = _
  rw [smalls_c, Bool.and_true]
theorem onlyB_all (s : ByteArray) : onlyB s keyc = s.data.toList.all okc := by
  unfold onlyB
  congr 1
  funext c
  exact keyc_c c

theorem in_is (n low high : Int) (b : Bool) (h : (!outB n low high) = b) (w : World) :
    Calls Try.prog 47 #[.int .i64 n, .int .i64 low, .int .i64 high] w fun e w' => e = .returned (.bool b) ∧ w = w' := h ▸ in_any n low high w
theorem out_is (n low high : Int) (b : Bool) (h : outB n low high = b) (w : World) :
    Calls Try.prog 42 #[.int .i64 n, .int .i64 low, .int .i64 high] w fun e w' => e = .returned (.bool b) ∧ w = w' := h ▸ out_any n low high w
theorem only_is (s some : ByteArray) (b : Bool) (h : onlyB s some.data.toList = b) (w : World) (hs : s.size ≤ 9223372036854775807) :
    Calls Try.prog 76 #[.string s, .string some] w fun e w' => e = .returned (.bool b) ∧ w = w' := h ▸ only_any s some w hs
theorem key_is (s : ByteArray) (b : Bool) (h : keyB s = b) (w : World) (hs : s.size ≤ 9223372036854775807) :
    Calls Try.prog 53 #[.string s] w fun e w' => e = .returned (.bool b) ∧ w = w' := h ▸ key_prog s w hs

set_option maxRecDepth 100000 in
set_option maxHeartbeats 1000000 in
theorem key_ref (s : ByteArray) (w : World) (hs : s.size ≤ 9223372036854775807) :
    Calls Try.prog 45 #[.string s] w fun e w' => e = .returned (.bool (keyB s)) ∧ w = w' := by
  by_cases h0 : s.size = 0 ∨ 40 < s.size
  · have hk : keyB s = false := by
      rcases h0 with h0 | h0
      · exact keyB_empty h0
      · exact keyB_long h0
    have hk := Lib.hid hk
    have ho := Lib.hid (show (!outB s.size 1 40) = false by simp [outB]; omega)
    clear h0
    go_enter Try.func45, Try.ntmps45
    go_wp2_with (go_at_call 47; refine (in_is _ _ _ _ ho.out _).mono ?_; rintro e w1 ⟨rfl, rfl⟩)
    go_ret
    exact ⟨ret_bool hk.out.symm, rfl⟩
  · have hpos : 0 < s.size := by omega
    have h40 : s.size ≤ 40 := by omega
    have ho := Lib.hid (show (!outB s.size 1 40) = true by simp [outB]; omega)
    have hh := onlyB_head hpos
    have ha := onlyB_all s
    have hx : (s.extract 0 1).size ≤ 9223372036854775807 := by simp; omega
    have hkk : keyB s = (lowc s[0] && s.data.toList.all okc) := by
      obtain ⟨t, ht⟩ := list_of s hpos
      have hl : s.data.toList.length = s.size := by simp
      rw [ht] at hl
      simp only [keyB, keyL, ht]
      simp [hl, h40]
    clear h0
    cases hc : lowc s[0]
    · rw [hc] at hh hkk
      have hk := Lib.hid (show keyB s = false by rw [hkk]; rfl)
      have Hh := Lib.hid hh
      clear hkk ha hh hc
      go_enter Try.func45, Try.ntmps45
      go_wp2_with first | (go_at_call 47; refine (in_is _ _ _ _ ho.out _).mono ?_; rintro e w1 ⟨rfl, rfl⟩) | (go_at_call 76; refine (only_is (s.extract 0 1) ⟨smalls.toArray⟩ _ Hh.out _ hx).mono ?_; rintro e w1 ⟨rfl, rfl⟩)
      go_ret
      exact ⟨ret_bool hk.out.symm, rfl⟩
    · rw [hc] at hh hkk
      have hk := Lib.hid (show onlyB s keyc = keyB s by rw [ha, hkk]; rfl)
      have Hh := Lib.hid hh
      clear hkk ha hh hc
      go_enter Try.func45, Try.ntmps45
      go_wp2_with fail
      refine (in_is _ _ _ _ ho.out _).mono ?_
      rintro e w1 ⟨rfl, rfl⟩
      go_wp2_with fail
      refine (only_is (s.extract 0 1) ⟨smalls.toArray⟩ _ Hh.out _ hx).mono ?_
      rintro e w1 ⟨rfl, rfl⟩
      go_wp2_with fail
      refine (only_is s ⟨keyc.toArray⟩ _ hk.out _ hs).mono ?_
      rintro e w1 ⟨rfl, rfl⟩
      go_wp2_with fail
      go_ret
      exact ⟨rfl, rfl⟩

theorem key_ref_is (s : ByteArray) (b : Bool) (h : keyB s = b) (w : World) (hs : s.size ≤ 9223372036854775807) :
    Calls Try.prog 45 #[.string s] w fun e w' => e = .returned (.bool b) ∧ w = w' := h ▸ key_ref s w hs
end Go.Proofs.Ytkdimgghljklmaa
/-
  Lemmas on what a law owns while it draws. No condition on a program.
-/
set_option linter.unusedVariables false
namespace Go.Bw
open Go.RowKit

theorem owns_str {w w' : World} {B base e sz n : Nat} {v : Value} {xs : List Value} (h : w.ownsRow base e sz v n xs) (g : w.grownBy w' (some B)) (hB : B < base) : w'.ownsRow base e sz v n xs :=
  h.kept g (.inr (fun e => by have := (h.lt B e).1; omega))

theorem below_str {n₀ B : Nat} {w0 w w' : World} (h : Below n₀ w0 w) (g : w.grownBy w' (some B)) (hB : n₀ ≤ B) (hs : n₀ ≤ w.heap.size) : Below n₀ w0 w' :=
  h.grown g hs (fun k hk => by cases hk; exact hB)

theorem Str.kept {B b : Nat} {w w' : World} {row : Option Nat} (h : Str B w b) (g : w.grownBy w' row) (hr : ∀ k, row = some k → B < k) : Str B w' b := by
  have hlt := h.lt
  have hB : w'.heap[B]? = w.heap[B]? := g.block B hlt (fun e => by have := hr B e.symm; omega)
  obtain ⟨v, n, zs, t, h0, h1, h2, h3, h4, h5⟩ := h
  exact ⟨v, n, zs, t, (World.cell?_of_block (a := ⟨B, 0, none⟩) hB).trans h0, (World.cell?_of_block (a := ⟨B, 1, none⟩) hB).trans h1, (World.frozen?_of_block (a := ⟨B, 1, none⟩) hB).trans h2, h3, h4,
    h5.swap (fun k hk => g.block k (Nat.lt_trans hk hlt) (fun e => by have := hr k e.symm; omega)) g.size⟩

theorem Str.alloc {B b : Nat} {w : World} (h : Str B w b) (o : Obj) : Str B (w.alloc o) b := h.kept (World.grownBy_alloc w o none) (by simp)
theorem Str.drew {B b : Nat} {w : World} (h : Str B w b) : Str B w.drew b := h

theorem Str.app {B b base e sz n : Nat} {w w' : World} {v : Value} {xs : List Value} (h : Str B w b) (ho : w.ownsRow base e sz v n xs) (g : w.grownBy w' v.ownBlock) (hB : B < base) : Str B w' b :=
  h.kept g (fun k hk => by have := (ho.lt k hk).1; omega)

/-- A store into an owned row of ints. -/
theorem owns_set {w : World} {base e n g cap : Nat} {xs : List Int} (h : w.ownsRow base e 1 (.slice (some ⟨g, 0, none⟩) n cap) n (xs.map (.int .i64))) (i : Nat) (hi : i < n) (u : Int) :
    (w.setCell ⟨g, i, none⟩ (.int .i64 u)).ownsRow base e 1 (.slice (some ⟨g, 0, none⟩) n cap) n ((xs.set i u).map (.int .i64)) := by
  obtain ⟨h1, h2⟩ := h
  refine ⟨by simpa using h1, ?_⟩
  rcases h2 with ⟨h2, _⟩ | ⟨g', cap', cur, hv, hb, hg, hn, hc, hs, ht⟩
  · cases h2
  · simp only [Value.slice.injEq, Option.some.injEq, Addr.mk.injEq] at hv
    obtain ⟨⟨rfl, _⟩, _, rfl⟩ := hv
    refine .inr ⟨g, cap, cur.setIfInBounds i (.int .i64 u), rfl, hb, ?_, hn, hc, by simpa using hs, ?_⟩
    · have hlt := (Array.getElem?_eq_some_iff.1 hg).1
      simp only [World.setCell, Array.getElem?_modify, if_true, hg, Option.map_some]
      rfl
    · rw [List.map_set, ← ht, Array.toList_setIfInBounds]
      exact List.take_set.symm ▸ rfl
end Go.Bw
/-
  Rows of things of several cells; what a call of the stream leaves. No condition on a program.
-/
set_option linter.unusedVariables false
namespace Go.Bw
open Go.RowKit

/-- The cells of a list of things. -/
def cellsOf {α : Type} (enc : α → List Value) (l : List α) : List Value := l.flatMap enc

theorem cellsOf_nil {α : Type} (enc : α → List Value) : cellsOf enc [] = [] := rfl
theorem cellsOf_cons {α : Type} (enc : α → List Value) (x : α) (l : List α) : cellsOf enc (x :: l) = enc x ++ cellsOf enc l := rfl
theorem cellsOf_snoc {α : Type} (enc : α → List Value) (l : List α) (x : α) : cellsOf enc (l ++ [x]) = cellsOf enc l ++ enc x := by simp [cellsOf]
theorem cellsOf_append {α : Type} (enc : α → List Value) (l l' : List α) : cellsOf enc (l ++ l') = cellsOf enc l ++ cellsOf enc l' := by simp [cellsOf]

theorem cellsOf_length {α : Type} (enc : α → List Value) (sz : Nat) (h : ∀ x, (enc x).length = sz) (l : List α) : (cellsOf enc l).length = l.length * sz := by
  induction l with
  | nil => simp [cellsOf]
  | cons x l ih => rw [cellsOf_cons, List.length_append, ih, h, List.length_cons, Nat.add_mul]; omega

theorem cellsOf_get {α : Type} (enc : α → List Value) (sz : Nat) (h : ∀ x, (enc x).length = sz) (l : List α) : ∀ (k : Nat) (hk : k < l.length) (j : Nat), j < sz → (cellsOf enc l)[k * sz + j]? = (enc l[k])[j]? := by
  induction l with
  | nil => intro k hk; simp at hk
  | cons x l ih =>
    intro k hk j hj
    rw [cellsOf_cons]
    cases k with
    | zero => rw [List.getElem?_append_left (by rw [h]; omega)]; simp
    | succ k =>
      rw [List.getElem?_append_right (by rw [h, Nat.add_mul]; omega), h]
      have := ih k (by simpa using hk) j hj
      rw [show (k + 1) * sz + j - sz = k * sz + j by rw [Nat.add_mul]; omega]
      simpa using this

/-- Element i of a list, at an Int index (a plain def: the walk does not open it). -/
def geta {α : Type} [Inhabited α] (l : List α) (i : Int) : α := l[i.toNat]?.getD default

theorem geta_eq {α : Type} [Inhabited α] (l : List α) (i : Int) (h0 : 0 ≤ i) (h1 : i < l.length) : geta l i = l[i.toNat]'(by omega) := by
  unfold geta
  rw [List.getElem?_eq_getElem (by omega)]
  rfl

theorem geta_mem {α : Type} [Inhabited α] {l : List α} {i : Int} (h0 : 0 ≤ i) (h1 : i < l.length) : geta l i ∈ l := by
  rw [geta_eq l i h0 h1]; exact List.getElem_mem _

theorem Row.els {α : Type} [Inhabited α] {enc : α → List Value} {sz : Nat} (henc : ∀ x, (enc x).length = sz) (hs : 0 < sz) {w : World} {base n : Nat} {v : Value} {l : List α} (h : Row w base sz v n (cellsOf enc l)) :
    l.length = n ∧ ((v = .slice none 0 0 ∧ n = 0) ∨ ∃ b off cap, v = .slice (some ⟨b, off, none⟩) n cap ∧ base ≤ b ∧ b < w.heap.size ∧ n ≤ cap ∧ cap ≤ 9223372036854775807 ∧
      ∀ i : Int, 0 ≤ i → i < n → ∀ j u, (enc (geta l i))[j]? = some u → w.cell? ⟨b, off + i.toNat * sz + j, none⟩ = some u) := by
  obtain ⟨h1, h2⟩ := h
  have hl : l.length = n := by rw [cellsOf_length enc sz henc] at h1; exact Nat.eq_of_mul_eq_mul_right hs h1
  refine ⟨hl, ?_⟩
  rcases h2 with h2 | ⟨b, off, cap, e, hb, hlt, hn, hc, hcell⟩
  · exact .inl h2
  · refine .inr ⟨b, off, cap, e, hb, hlt, hn, by unfold maxLen at hc; omega, fun i h0 hi j u hu => ?_⟩
    have hj : j < sz := by
      have := (List.getElem?_eq_some_iff.1 hu).1
      rwa [henc] at this
    have := hcell (i.toNat * sz + j) u (by rw [cellsOf_get enc sz henc l i.toNat (by omega) j hj, ← hu, geta_eq l i h0 (by omega)])
    rwa [← Nat.add_assoc] at this

/-- The value of a row is a slice of that many. -/
theorem Row.shape {w : World} {base sz n : Nat} {v : Value} {cs : List Value} (h : Row w base sz v n cs) : ∃ a c, v = .slice a n c := by
  rcases h.2 with ⟨rfl, rfl⟩ | ⟨b, off, cap, rfl, _⟩
  · exact ⟨_, _, rfl⟩
  · exact ⟨_, _, rfl⟩

theorem Row.below_w {w w' : World} {base sz n : Nat} {v : Value} {cs : List Value} (h : Row w base sz v n cs) (g : Below w.heap.size w w') : Row w' base sz v n cs := h.below g

/-- v is a row whose block is another one than n₀. -/
structure Apart (n₀ : Nat) (w : World) (sz n : Nat) (v : Value) (cs : List Value) : Prop where
  row : Row w 0 sz v n cs
  ne : ∀ k, v.ownBlock = some k → k ≠ n₀

theorem Apart.grow {n₀ sz n : Nat} {w w' : World} {v : Value} {cs : List Value} (h : Apart n₀ w sz n v cs) (g : w.grownBy w' (some n₀)) : Apart n₀ w' sz n v cs := by
  refine ⟨?_, h.ne⟩
  obtain ⟨⟨h1, h2⟩, hne⟩ := h
  refine ⟨h1, ?_⟩
  rcases h2 with h2 | ⟨b, off, cap, rfl, hb, hl, hn, hc, hcell⟩
  · exact .inl h2
  · refine .inr ⟨b, off, cap, rfl, hb, Nat.lt_of_lt_of_le hl g.size, hn, hc, fun i u hu => ?_⟩
    rw [World.cell?_of_block (w := w) (g.block b hl (fun e => by have := hne b rfl; simp at e; omega))]
    exact hcell i u hu

theorem Apart.below {n₀ sz n : Nat} {w w' : World} {v : Value} {cs : List Value} (h : Apart n₀ w sz n v cs) (g : Below w.heap.size w w') : Apart n₀ w' sz n v cs := ⟨h.row.below g, h.ne⟩
theorem Apart.alloc {n₀ sz n : Nat} {w : World} {v : Value} {cs : List Value} (h : Apart n₀ w sz n v cs) (o : Obj) : Apart n₀ (w.alloc o) sz n v cs := h.grow (World.grownBy_alloc w o _)
theorem Apart.drewN {n₀ sz n : Nat} {w : World} {v : Value} {cs : List Value} (h : Apart n₀ w sz n v cs) (k : Nat) : Apart n₀ (w.drewN k) sz n v cs := ⟨h.row, h.ne⟩
theorem Apart.of_owns {n₀ B e sz n : Nat} {w : World} {v : Value} {cs : List Value} (h : w.ownsRow B e sz v n cs) (hB : n₀ < B) : Apart n₀ w sz n v cs :=
  ⟨(Row.of_owns h).mono (Nat.zero_le _), fun k hk => by have := h.lt k hk; omega⟩

/-- What a call that draws from the stream n₀ leaves: nothing else that was there has changed. -/
structure Drawn (n₀ : Nat) (w w' : World) (b : Nat) : Prop where
  str : Str n₀ w' b
  gr : w.grownBy w' (some n₀)

theorem Drawn.refl {n₀ b : Nat} {w : World} (h : Str n₀ w b) : Drawn n₀ w w b := ⟨h, grown_refl _ _⟩
theorem Drawn.trans {n₀ b b' : Nat} {w w' w'' : World} (h : Drawn n₀ w w' b) (k : Drawn n₀ w' w'' b') : Drawn n₀ w w'' b' := ⟨k.str, grown_trans h.gr k.gr⟩
theorem Drawn.alloc {n₀ b : Nat} {w w' : World} (h : Drawn n₀ w w' b) (o : Obj) : Drawn n₀ w (w'.alloc o) b := ⟨h.str.alloc o, grown_trans h.gr (World.grownBy_alloc w' o _)⟩
theorem Drawn.mono {n₀ b b' : Nat} {w w' : World} (h : Drawn n₀ w w' b) (hb : b ≤ b') : Drawn n₀ w w' b' := ⟨h.str.mono hb, h.gr⟩
theorem Drawn.drewN {n₀ b : Nat} {w w' : World} (h : Drawn n₀ w w' b) (k : Nat) : Drawn n₀ w (w'.drewN k) b := ⟨h.str, grown_drewN h.gr k⟩
theorem Drawn.below {n₀ b : Nat} {w w' w'' : World} (h : Drawn n₀ w w' b) (g : Below w'.heap.size w' w'') : Drawn n₀ w w'' b := ⟨h.str.below g, grown_trans h.gr (grown_of_below g)⟩
theorem Drawn.app {n₀ b B e sz n : Nat} {w w' w'' : World} {v : Value} {xs : List Value} (h : Drawn n₀ w w' b) (ho : w'.ownsRow B e sz v n xs) (hB : w.heap.size ≤ B) (hn : n₀ < B) (g : w'.grownBy w'' v.ownBlock) : Drawn n₀ w w'' b := by
  refine ⟨h.str.app ho g hn, ⟨g.os.trans h.gr.os, g.tape.trans h.gr.tape, g.output.trans h.gr.output, Nat.le_trans h.gr.size g.size, fun k hk hne => ?_⟩⟩
  rw [g.block k (Nat.lt_of_lt_of_le hk h.gr.size) (fun e => by have := ho.lt k e.symm; omega), h.gr.block k hk hne]

theorem Drawn.size {n₀ b : Nat} {w w' : World} (h : Drawn n₀ w w' b) : w.heap.size ≤ w'.heap.size := h.gr.size
end Go.Bw
/-
  Lists of keys that rise: the program's and the reference's look. Condition: the strings are no longer than any string of Go.
-/
set_option linter.unusedVariables false
namespace Go.Bw
open Go.RowKit
def encSt (s : ByteArray) : List Value := [.string s]
theorem encSt_length (s : ByteArray) : (encSt s).length = 1 := rfl
/-- Is the one string not greater than the other? -/
def leB (a b : ByteArray) : Bool := Op.bytesLess a.toList b.toList || a.toList == b.toList
end Go.Bw
namespace Go.Proofs.Ytkdimgghljklmaa
open Go.RowKit Go.Bw
def risingAt (l : List ByteArray) (i : Int) : Int := if keyB (geta l i) = false then 5 else if 0 < i ∧ leB (geta l i) (geta l (i - 1)) = true then 7 else 0
def risingE (l : List ByteArray) : Int := firstErr (risingAt l) l.length

/-- What is wrong with a list of positions that may be empty. -/
def listE (l : List ByteArray) : Int := if 10 < l.length then 2 else risingE l

end Go.Proofs.Ytkdimgghljklmaa
/-
  Is a string among strings? The library's slices.Contains. Condition: fewer strings than Go's greatest number.
-/
set_option linter.unusedVariables false
namespace Go.Bw
open Go.RowKit
theorem take_cellsOf {α : Type} (enc : α → List Value) (sz : Nat) (h : ∀ x, (enc x).length = sz) : ∀ (l : List α) (k : Nat), k ≤ l.length → cellsOf enc (l.take k) = (cellsOf enc l).take (k * sz)
  | [], k, hk => by simp at hk; subst hk; simp [cellsOf]
  | x :: l, 0, _ => by simp [cellsOf]
  | x :: l, k + 1, hk => by
    rw [List.take_succ_cons, cellsOf_cons, cellsOf_cons, take_cellsOf enc sz h l k (by simpa using hk), Nat.add_mul, Nat.one_mul, Nat.add_comm, List.take_append, h, List.take_of_length_le (l := enc x) (by rw [h]; omega)]
    congr 2
    omega
/-- The first k of a row. -/
theorem Row.first {α : Type} {enc : α → List Value} {sz : Nat} (henc : ∀ x, (enc x).length = sz) {w : World} {base n cap b off : Nat} {l : List α} (h : Row w base sz (.slice (some ⟨b, off, none⟩) n cap) n (cellsOf enc l)) (hl : l.length = n) {k : Nat} (hk : k ≤ n) :
    Row w base sz (.slice (some ⟨b, off, none⟩) k cap) k (cellsOf enc (l.take k)) := by
  obtain ⟨h1, h2⟩ := h
  refine ⟨by rw [cellsOf_length enc sz henc, List.length_take]; congr 1; omega, ?_⟩
  rcases h2 with ⟨h2, _⟩ | ⟨b', off', cap', e, hb, hlt, hn, hc, hcell⟩
  · cases h2
  · simp only [Value.slice.injEq, Option.some.injEq, Addr.mk.injEq] at e
    obtain ⟨⟨rfl, rfl, _⟩, _, rfl⟩ := e
    refine .inr ⟨b, off, cap, rfl, hb, hlt, by omega, hc, fun i u hu => hcell i u ?_⟩
    rw [take_cellsOf enc sz henc l k (by omega)] at hu
    rw [List.getElem?_take] at hu
    split at hu
    · exact hu
    · cases hu
end Go.Bw
namespace Go.Proofs.Ytkdimgghljklmaa
open Go.RowKit Go.Bw
/-- Is x among zs? -/
def hasS (zs : List ByteArray) (x : ByteArray) : Bool := Lib.containsS zs x

theorem contains_str (v : Value) (n : Nat) (zs : List ByteArray) (x : ByteArray) (base : Nat) (w : World) (h : Row w base 1 v n (cellsOf encSt zs)) :
    Calls Try.prog 46 #[v, .string x] w fun e w' => e = .returned (.bool (hasS zs x)) ∧ w = w' := by
  obtain ⟨hl, hc⟩ := h.els encSt_length (by decide)
  subst hl
  rcases hc with ⟨rfl, h0⟩ | ⟨b, off, cap, rfl, _, hbs, hnc, hcm, hcell⟩
  · refine (Try.slices_Contains_string_empty none 0 x w).mono ?_
    rintro e w' ⟨rfl, rfl⟩
    have : zs = [] := List.length_eq_zero_iff.1 h0
    subst this
    exact ⟨rfl, rfl⟩
  · refine (Try.slices_Contains_string b off zs.length cap zs x w (Nat.le_refl _) (by omega) (fun j hj => ?_)).mono ?_
    · have := hcell (j : Int) (by omega) (by omega) 0 _ rfl
      rw [geta_eq zs j (by omega) (by omega)] at this
      simpa [List.getD, hj] using this
    · rintro e w' ⟨rfl, rfl⟩
      rw [List.take_length]
      exact ⟨rfl, rfl⟩

theorem hasS_iff (zs : List ByteArray) (x : ByteArray) : hasS zs x = true ↔ x ∈ zs := Lib.containsS_iff zs x
end Go.Proofs.Ytkdimgghljklmaa
/-
  Lots: what is wrong with teams, weights and places, as both sides tell it. No condition.
-/
set_option linter.unusedVariables false
namespace Go.Proofs.Ytkdimgghljklmaa
open Go.RowKit Go.Bw
/-- Is x among the first k? -/
def hasTo (ts : List ByteArray) (k : Int) (x : ByteArray) : Bool := hasS (ts.take k.toNat) x
def teamAt (ts : List ByteArray) (i : Int) : Int := if keyB (geta ts i) = false then 5 else if hasTo ts i (geta ts i) = true then 6 else 0
def wgtAt (ws : List Int) (i : Int) : Int := if outB (geti ws i) 1 1000 = true then 1 else 0
def weightsE (ts : List ByteArray) (ws : List Int) : Int :=
  if ts.length = 0 then 8 else if 14 < ts.length then 2 else if firstErr (teamAt ts) ts.length ≠ 0 then firstErr (teamAt ts) ts.length else if ws.length ≠ ts.length then 3 else firstErr (wgtAt ws) ws.length
def topB (n : Nat) (top : Int) : Bool := decide (top < 0) || decide (4 < top) || decide ((n : Int) < top)
def topE (ts : List ByteArray) (ws : List Int) (top : Int) : Int := if weightsE ts ws ≠ 0 then weightsE ts ws else if topB ts.length top = true then 1 else 0
def lotAt (lots : List Int) : Bool := lots.any fun x => decide (x < 0)
def drawE (ts : List ByteArray) (ws lots : List Int) (top : Int) : Int := if topE ts ws top ≠ 0 then topE ts ws top else if (lots.length : Int) ≠ top then 3 else if lotAt lots = true then 1 else 0
/-- The order that lots make. -/
def drawO (ts : List ByteArray) (ws lots : List Int) : List Nat := allL ts.length (lotsH ts.length ws ws.sum lots [])
def namesL (ts : List ByteArray) (l : List Nat) : List ByteArray := l.map fun (i : Nat) => geta ts (i : Int)
def drawL (ts : List ByteArray) (ws lots : List Int) (top : Int) : List ByteArray := if drawE ts ws lots top = 0 then namesL ts (drawO ts ws lots) else []
/-- Weights that are right. -/
structure WGood (ts : List ByteArray) (ws : List Int) : Prop where
  n1 : 1 ≤ ts.length
  n14 : ts.length ≤ 14
  len : ws.length = ts.length
  lo : ∀ x ∈ ws, 1 ≤ x ∧ x ≤ 1000
theorem w_good {ts : List ByteArray} {ws : List Int} (h : weightsE ts ws = 0) : WGood ts ws := by
  unfold weightsE at h
  have a1 : ¬ ts.length = 0 := fun e => by rw [if_pos e] at h; cases h
  rw [if_neg a1] at h
  have a2 : ¬ 14 < ts.length := fun e => by rw [if_pos e] at h; cases h
  rw [if_neg a2] at h
  have a3 : ¬ firstErr (teamAt ts) ts.length ≠ 0 := fun e => by rw [if_pos e] at h; exact e h
  rw [if_neg a3] at h
  have a4 : ¬ ws.length ≠ ts.length := fun e => by rw [if_pos e] at h; cases h
  rw [if_neg a4] at h
  refine ⟨by omega, by omega, by omega, fun x hx => ?_⟩
  obtain ⟨i, hi, rfl⟩ := List.getElem_of_mem hx
  have := firstErr_zero h (i : Int) (by omega) (by omega)
  unfold wgtAt at this
  have hg : geti ws (i : Int) = ws[i] := by simp [geti, hi]
  rw [hg] at this
  have ho : outB ws[i] 1 1000 = false := by
    cases hb : outB ws[i] 1 1000
    · rfl
    · rw [hb] at this; simp at this
  exact out_no ho
theorem sum_ge : ∀ (l : List Int), (∀ x ∈ l, 1 ≤ x ∧ x ≤ 1000) → (l.length : Int) ≤ l.sum ∧ l.sum ≤ 1000 * l.length
  | [], _ => by simp
  | x :: l, h => by
    have := h x (by simp)
    have ih := sum_ge l fun y hy => h y (by simp [hy])
    rw [List.sum_cons, List.length_cons]
    omega
end Go.Proofs.Ytkdimgghljklmaa
/-
  Walks cut into pieces: what a statement makes of a relation on frames and worlds. No condition.
-/
set_option linter.unusedVariables false
namespace Go.Bw
open Go.RowKit

/-- A part of a text: 0, 1: left and right of a sequence; 2, 3: the ways of an if; 4: inside a block, a loop, a scope. -/
def sel : List Nat → Code → Code
  | 0 :: l, .seq a _ => sel l a
  | 1 :: l, .seq _ b => sel l b
  | 2 :: l, .cond _ a _ => sel l a
  | 3 :: l, .cond _ _ b => sel l b
  | 4 :: l, .block _ c => sel l c
  | 4 :: l, .loop c => sel l c
  | 4 :: l, .scope c => sel l c
  | _, c => c

/-- A frame of n slots. -/
def frame (n : Nat) (f : Nat → Value) : Act := ⟨((List.range n).map f).toArray, []⟩

def AllAt (f : Nat → Value) : List (Nat × Value) → Prop
  | [] => True
  | p :: l => f p.1 = p.2 ∧ AllAt f l

/-- The frame has n slots, and those of the list hold what it says. -/
def Fr (n : Nat) (l : List (Nat × Value)) (a : Act) : Prop := ∃ f, a = frame n f ∧ AllAt f l

theorem Fr.of {n : Nat} {l : List (Nat × Value)} (xs : List Value) (hn : xs.length = n) (h : AllAt (fun i => xs.getD i undef) l) : Fr n l ⟨xs.toArray, []⟩ := by
  refine ⟨_, ?_, h⟩
  unfold frame
  congr 2
  apply List.ext_getElem
  · simp [hn]
  · intro i h1 h2
    simp [List.getD, h1]

theorem AllAt.get {f : Nat → Value} {l : List (Nat × Value)} (h : AllAt f l) {p : Nat × Value} (hp : p ∈ l) : f p.1 = p.2 := by
  induction l with
  | nil => cases hp
  | cons q l ih =>
    rcases List.mem_cons.1 hp with rfl | hp
    · exact h.1
    · exact ih h.2 hp

theorem Fr.eval {n : Nat} {l : List (Nat × Value)} {a : Act} (h : Fr n l a) (i : Nat) (hi : i < n) {v : Value} (hv : (i, v) ∈ l) : a.eval (.tmp i) = v := by
  obtain ⟨f, rfl, hf⟩ := h
  have := hf.get hv
  simp only at this
  simp only [Act.eval, frame]
  rw [Array.getD_eq_getD_getElem?]
  simp [hi, this]

theorem AllAt.sub {f : Nat → Value} {l l' : List (Nat × Value)} (h : AllAt f l) (hs : ∀ p ∈ l', p ∈ l) : AllAt f l' := by
  induction l' with
  | nil => trivial
  | cons q l' ih => exact ⟨h.get (hs q (by simp)), ih fun p hp => hs p (by simp [hp])⟩

theorem Fr.sub {n : Nat} {l l' : List (Nat × Value)} {a : Act} (h : Fr n l a) (hs : ∀ p ∈ l', p ∈ l) : Fr n l' a := by
  obtain ⟨f, rfl, hf⟩ := h
  exact ⟨f, rfl, hf.sub hs⟩

theorem Fr.tail {n : Nat} {p : Nat × Value} {l : List (Nat × Value)} {a : Act} (h : Fr n (p :: l) a) : Fr n l a := h.sub (by simp +contextual)

/-- The statement s takes R to S. -/
def Tri (P : Program) (R : Act → World → Prop) (s : Code) (S : Act → World → Prop) : Prop :=
  ∀ (Q : Exit → Act → World → Prop) (J K : Act → World → Prop), (∀ a w, S a w → J a w) → (∀ a w, Met J a w → K a w) → ∀ a w, R a w → s.wp P (Exit.then K Q) a w

section
variable {P : Program} {R S T X : Act → World → Prop} {s c : Code} {Q : Exit → Act → World → Prop} {K : Act → World → Prop} {a : Act} {w : World}

theorem Tri.go (h : Tri P R s S) (hR : R a w) (rest : ∀ a w, S a w → K a w) : s.wp P (Exit.then K Q) a w := h Q S K (fun _ _ h => h) rest a w hR

theorem wp_tri (h : Tri P R s S) (hR : R a w) (rest : ∀ a w, S a w → c.wp P Q a w) : (Code.seq s c).wp P Q a w := wp_seq (h.go hR rest)

theorem then_then {e : Exit} (h : Exit.then K (Exit.then K Q) e a w) : Exit.then K Q e a w := by cases e <;> exact h

theorem Tri.seq (h : Tri P R s S) (k : Tri P S c T) : Tri P R (.seq s c) T := by
  intro Q J K hJ hK a w hR
  refine wp_seq (wp_mono (h.go (Q := Exit.then K Q) (K := c.wp P (Exit.then K Q)) hR fun a w hS => k.go hS fun a w hT => hK a w (hJ a w hT)) ?_)
  intro e a w q
  exact q

theorem Tri.skip (h : ∀ a w, R a w → S a w) : Tri P R .skip S := fun _ _ _ hJ hK a w hR => wp_skip (hK a w (hJ a w (h a w hR)))

theorem Tri.mono {R' S' : Act → World → Prop} (h : Tri P R s S) (h1 : ∀ a w, R' a w → R a w) (h2 : ∀ a w, S a w → S' a w) : Tri P R' s S' :=
  fun Q J K hJ hK a w hR => h Q J K (fun a w q => hJ a w (h2 a w q)) hK a w (h1 a w hR)

theorem Tri.cond {o : Operand} {x y : Code} (R1 R2 : Act → World → Prop) (h : ∀ a w, R a w → (a.eval o = .bool true ∧ R1 a w) ∨ (a.eval o = .bool false ∧ R2 a w))
    (hx : Tri P R1 x S) (hy : Tri P R2 y S) : Tri P R (.cond o x y) S := by
  intro Q J K hJ hK a w hR
  rcases h a w hR with ⟨he, h1⟩ | ⟨he, h1⟩
  · exact wp_cond_true he (hx Q J K hJ hK a w h1)
  · exact wp_cond_false he (hy Q J K hJ hK a w h1)

/-- One round of a loop in block id, at the number n. -/
def Rnd (P : Program) (I : Nat → Act → World → Prop) (id : Nat) (c : Code) (X : Act → World → Prop) : Prop :=
  ∀ (n : Nat) (Q : Exit → Act → World → Prop) (J J' K : Act → World → Prop), (∀ m a w, m < n → I m a w → J a w) → (∀ a w, Met J a w → K a w) →
    (∀ a w, X a w → J' a w) → (∀ a w, Met J' a w → Q (.exit id) a w) → ∀ a w, I n a w → c.wp P (Exit.then K Q) a w

theorem Tri.loop {id : Nat} (I : Nat → Act → World → Prop) (h0 : ∀ a w, R a w → ∃ n, I n a w) (h : Rnd P I id c X) : Tri P R (.block id (.loop c)) X := by
  intro Q J K hJ hK a w hR
  obtain ⟨n, hI⟩ := h0 a w hR
  refine wp_block (wp_loop_ghost I n hI fun n a w hI => ?_)
  refine h n _ (fun a w => ∃ m, m < n ∧ I m a w) X _ (fun m a w hm hI => ⟨m, hm, hI⟩) (fun a w q => q) (fun _ _ q => q) ?_ a w hI
  intro a w q
  show Exit.inBlock id _ (.exit id) a w
  simp only [Exit.inBlock, if_true]
  exact hK a w (hJ a w q)
end
end Go.Bw
/-
  Walks cut into pieces, with returns and exits. No condition.
-/
set_option linter.unusedVariables false
namespace Go.Bw
open Go.RowKit

abbrev Rel : Type := Act → World → Prop
def No : Rel := fun _ _ => False

/-- Where a statement may come out: at its end (S), by leaving block id (X), by a return (T). -/
def Post (S X : Rel) (id : Nat) (T : Rel) : Exit → Act → World → Prop
  | .normal, a, w => S a w
  | .exit i, a, w => i = id ∧ X a w
  | .ret, a, w => T a w
  | _, _, _ => False

def T3 (P : Program) (R : Rel) (s : Code) (S X : Rel) (id : Nat) (T : Rel) : Prop := ∀ a w, R a w → s.wp P (Post S X id T) a w

section
variable {P : Program} {R R' S S' X X' T T' : Rel} {s c : Code} {id id' : Nat}

theorem T3.leaf (h : ∀ (Q : Exit → Act → World → Prop) (JS JX JT K : Rel), (∀ a w, S a w → JS a w) → (∀ a w, Met JS a w → K a w) → (∀ a w, X a w → JX a w) → (∀ a w, Met JX a w → Q (.exit id) a w) →
    (∀ a w, T a w → JT a w) → (∀ a w, Met JT a w → Q .ret a w) → ∀ a w, R a w → s.wp P (Exit.then K Q) a w) : T3 P R s S X id T := by
  intro a w hR
  refine wp_mono (h (Post S X id T) S X T S (fun _ _ q => q) (fun _ _ q => q) (fun _ _ q => q) (fun _ _ q => ⟨rfl, q⟩) (fun _ _ q => q) (fun _ _ q => q) a w hR) ?_
  intro e a w q
  cases e <;> exact q

theorem T3.of_tri (h : Tri P R s S) : T3 P R s S X id T := by
  intro a w hR
  refine wp_mono (h (Post S X id T) S S (fun _ _ q => q) (fun _ _ q => q) a w hR) ?_
  intro e a w q
  cases e <;> exact q

theorem T3.mono (h : T3 P R s S X id T) (hR : ∀ a w, R' a w → R a w) (hS : ∀ a w, S a w → S' a w) (hT : ∀ a w, T a w → T' a w) (hX : ∀ a w, X a w → X' a w) : T3 P R' s S' X' id T' := by
  intro a w q
  refine wp_mono (h a w (hR a w q)) ?_
  intro e a w q
  cases e with
  | normal => exact hS a w q
  | exit i => exact ⟨q.1, hX a w q.2⟩
  | ret => exact hT a w q
  | goto l => exact q
  | panic ch => exact q
  | outgrown => exact q

theorem T3.seq (h : T3 P R s S X id T) (k : T3 P S c S' X id T) : T3 P R (.seq s c) S' X id T := by
  intro a w hR
  refine wp_seq (wp_mono (h a w hR) ?_)
  intro e a w q
  cases e with
  | normal => exact k a w q
  | exit i => exact q
  | ret => exact q
  | goto l => exact q
  | panic ch => exact q
  | outgrown => exact q

theorem T3.skip (h : ∀ a w, R a w → S a w) : T3 P R .skip S X id T := fun a w q => wp_skip (h a w q)
theorem T3.ret (h : ∀ a w, R a w → T a w) : T3 P R .ret S X id T := fun a w q => wp_ret (h a w q)
theorem T3.exit (h : ∀ a w, R a w → X a w) : T3 P R (.exit id) S X id T := fun a w q => wp_exit ⟨rfl, h a w q⟩

theorem T3.cond {o : Operand} {x y : Code} (R1 R2 : Rel) (h : ∀ a w, R a w → (a.eval o = .bool true ∧ R1 a w) ∨ (a.eval o = .bool false ∧ R2 a w))
    (hx : T3 P R1 x S X id T) (hy : T3 P R2 y S X id T) : T3 P R (.cond o x y) S X id T := by
  intro a w hR
  rcases h a w hR with ⟨he, h1⟩ | ⟨he, h1⟩
  · exact wp_cond_true he (hx a w h1)
  · exact wp_cond_false he (hy a w h1)

/-- A block that nobody leaves but by its end. -/
theorem T3.block (hid : id ≠ id') (h : T3 P R c S X id T) : T3 P R (.block id' c) S X id T := by
  intro a w hR
  refine wp_block (wp_mono (h a w hR) ?_)
  intro e a w q
  cases e with
  | normal => exact q
  | exit i =>
    obtain ⟨rfl, q⟩ := q
    show Exit.inBlock id' _ (.exit i) a w
    simp only [Exit.inBlock, hid, if_false]
    exact ⟨rfl, q⟩
  | ret => exact q
  | goto l => exact q
  | panic ch => exact q
  | outgrown => exact q

theorem T3.loop (I : Nat → Rel) (h0 : ∀ a w, R a w → ∃ n, I n a w) (h : ∀ n, T3 P (I n) c (fun a w => ∃ m, m < n ∧ I m a w) S id T) : T3 P R (.block id (.loop c)) S X id' T := by
  intro a w hR
  obtain ⟨n, hI⟩ := h0 a w hR
  refine wp_block (wp_loop_ghost I n hI fun n a w hI => wp_mono (h n a w hI) ?_)
  intro e a w q
  cases e with
  | normal => exact q
  | exit i =>
    obtain ⟨rfl, q⟩ := q
    show Exit.inBlock i _ (.exit i) a w
    simp only [Exit.inBlock, if_true]
    exact q
  | ret => exact q
  | goto l => exact q
  | panic ch => exact q
  | outgrown => exact q

/-- Nobody leaves block id. -/
theorem T3.noX (h : T3 P R s S No id T) : T3 P R s S X id' T := by
  intro a w hR
  refine wp_mono (h a w hR) ?_
  intro e a w q
  cases e with
  | normal => exact q
  | exit i => exact q.2.elim
  | ret => exact q
  | goto l => exact q
  | panic ch => exact q
  | outgrown => exact q

theorem T3.pure {p : Prop} (h : p → T3 P R s S X id T) : T3 P (fun a w => p ∧ R a w) s S X id T := fun a w q => h q.1 a w q.2
theorem T3.ex {α : Type} {R : α → Rel} (h : ∀ x, T3 P (R x) s S X id T) : T3 P (fun a w => ∃ x, R x a w) s S X id T := fun a w ⟨x, q⟩ => h x a w q

/-- The whole text of a function: it ends by a return. -/
theorem T3.done {Q : Exit → Act → World → Prop} {a : Act} {w : World} (h : T3 P R s No No id T) (hR : R a w) (hT : ∀ a w, T a w → Q .ret a w) : s.wp P Q a w := by
  refine wp_mono (h a w hR) ?_
  intro e a w q
  cases e with
  | normal => exact q.elim
  | exit i => exact q.2.elim
  | ret => exact hT a w q
  | goto l => exact q.elim
  | panic ch => exact q.elim
  | outgrown => exact q.elim

/-- An if on a slot that holds a known Boolean. -/
theorem T3.iff {n i : Nat} {x y : Code} {l : List (Nat × Value)} {M : Bool → World → Prop} (hi : i < n) (hx : T3 P (fun a w => Fr n ((i, .bool true) :: l) a ∧ M true w) x S X id T)
    (hy : T3 P (fun a w => Fr n ((i, .bool false) :: l) a ∧ M false w) y S X id T) : T3 P (fun a w => ∃ q, Fr n ((i, .bool q) :: l) a ∧ M q w) (.cond (.tmp i) x y) S X id T := by
  refine T3.cond _ _ ?_ hx hy
  rintro a w ⟨q, hF, hM⟩
  have he := hF.eval i hi (v := .bool q) (by simp)
  cases q
  · exact .inr ⟨he, hF, hM⟩
  · exact .inl ⟨he, hF, hM⟩

/-- A statement that finds a Boolean, and the if on it. -/
theorem T3.test {n i : Nat} {x y : Code} {l : List (Nat × Value)} {C : Bool → Prop} {W : World → Prop} (hi : i < n)
    (h : T3 P R s (fun a w => ∃ q, Fr n ((i, .bool q) :: l) a ∧ (C q ∧ W w)) X id T)
    (hx : T3 P (fun a w => Fr n ((i, .bool true) :: l) a ∧ C true ∧ W w) x S X id T)
    (hy : T3 P (fun a w => C false ∧ W w ∧ Fr n l a) y S X id T) : T3 P R (.seq s (.cond (.tmp i) x y)) S X id T :=
  h.seq (T3.iff (M := fun q w => C q ∧ W w) hi hx (hy.mono (fun _ _ q => ⟨q.2.1, q.2.2, q.1.tail⟩) (fun _ _ q => q) (fun _ _ q => q) (fun _ _ q => q)))

theorem T3.pre (h : T3 P R s S X id T) (hR : ∀ a w, R' a w → R a w) : T3 P R' s S X id T := h.mono hR (fun _ _ q => q) (fun _ _ q => q) (fun _ _ q => q)
theorem T3.post (h : T3 P R s S X id T) (hS : ∀ a w, S a w → S' a w) : T3 P R s S' X id T := h.mono (fun _ _ q => q) hS (fun _ _ q => q) (fun _ _ q => q)
theorem T3.noS (h : T3 P R s No X id T) : T3 P R s S X id T := h.post (fun _ _ q => q.elim)
end
end Go.Bw
