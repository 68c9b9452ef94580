import Derived.WalkKit
import Derived.WalkSpells
import Derived.WalkLawsBesides
import Derived.Lib.Hide
namespace Go.Bw
open Go.RowKit

/-- The value v is a slice of n elements, sz cells each, whose cells read cs; its block is at or beyond base. -/
def Row (w : World) (base sz : Nat) (v : Value) (n : Nat) (cs : List Value) : Prop :=
  cs.length = n * sz ∧
  ((v = .slice none 0 0 ∧ n = 0) ∨
   ∃ b off cap, v = .slice (some ⟨b, off, none⟩) n cap ∧ base ≤ b ∧ b < w.heap.size ∧ n ≤ cap ∧ cap ≤ maxLen ∧
     ∀ i u, cs[i]? = some u → w.cell? ⟨b, off + i, none⟩ = some u)

theorem Row.mono {w : World} {base base' sz n : Nat} {v : Value} {cs : List Value} (h : Row w base sz v n cs) (hb : base' ≤ base) : Row w base' sz v n cs := by
  obtain ⟨h1, h2⟩ := h
  refine ⟨h1, ?_⟩
  rcases h2 with h2 | ⟨b, off, cap, e, hb', r⟩
  · exact .inl h2
  · exact .inr ⟨b, off, cap, e, Nat.le_trans hb hb', r⟩

theorem Row.grow {w w' : World} {base sz n : Nat} {v : Value} {cs : List Value} {row : Option Nat} (h : Row w base sz v n cs)
    (g : w.grownBy w' row) (hr : ∀ k, row = some k → k < base) : Row w' base sz v n cs := by
  obtain ⟨h1, h2⟩ := h
  refine ⟨h1, ?_⟩
  rcases h2 with h2 | ⟨b, off, cap, e, hb, hlt, hn, hc, hcell⟩
  · exact .inl h2
  · refine .inr ⟨b, off, cap, e, hb, Nat.lt_of_lt_of_le hlt g.size, hn, hc, fun i u hu => ?_⟩
    rw [World.cell?_of_block (w := w) (g.block b hlt (fun e => by have := hr b e.symm; omega))]
    exact hcell i u hu

theorem Row.below {w w' : World} {base sz n : Nat} {v : Value} {cs : List Value} (h : Row w base sz v n cs)
    (g : Below w.heap.size w w') : Row w' base sz v n cs :=
  h.grow (row := none) ⟨g.os, g.tape, g.output, g.size, fun k hk _ => g.block k hk⟩ (by simp)

theorem Row.of_owns {w : World} {base e sz n : Nat} {v : Value} {cs : List Value} (h : w.ownsRow base e sz v n cs) : Row w base sz v n cs := by
  refine ⟨h.1, ?_⟩
  rcases h.2 with ⟨h1, h2⟩ | ⟨g, cap, cur, rfl, hb, hg, hn, hc, _, _⟩
  · exact .inl ⟨h1, h2⟩
  · refine .inr ⟨g, 0, cap, rfl, hb, (Array.getElem?_eq_some_iff.1 hg).1, hn, hc, fun i u hu => ?_⟩
    have := h.cells (g := g) rfl i u hu
    rw [Addr.add_lit] at this; simpa using this

theorem below_of_grown {w w' : World} {row : Option Nat} (g : w.grownBy w' row) (hr : ∀ k, row = some k → w.heap.size ≤ k) : Below w.heap.size w w' :=
  ⟨g.os, g.tape, g.output, g.size, fun k hk => g.block k hk (fun e => by have := hr k e.symm; omega)⟩

/-- the cell of element k of a row of ints -/
theorem Row.int_at {w : World} {base n : Nat} {v : Value} {xs : List Int} (h : Row w base 1 v n (xs.map (.int .i64))) :
    xs.length = n ∧ ((v = .slice none 0 0 ∧ n = 0) ∨ ∃ b off cap, v = .slice (some ⟨b, off, none⟩) n cap ∧ base ≤ b ∧ b < w.heap.size ∧ n ≤ cap ∧ cap ≤ maxLen ∧ ∀ k, k < n → w.cell? ⟨b, off + k, none⟩ = some (.int .i64 (xs[k]?.getD 0))) := by
  obtain ⟨h1, h2⟩ := h
  simp at h1
  refine ⟨h1, ?_⟩
  rcases h2 with h2 | ⟨b, off, cap, e, hb, hlt, hn, hc, hcell⟩
  · exact .inl h2
  · refine .inr ⟨b, off, cap, e, hb, hlt, hn, hc, fun k hk => hcell k _ ?_⟩
    have : k < xs.length := by omega
    simp [this]
/-- Element i of a list of ints, at an Int index (a plain def: the walk does not open it). -/
def geti (l : List Int) (i : Int) : Int := l[i.toNat]?.getD 0

theorem Row.ints {w : World} {base n : Nat} {v : Value} {xs : List Int} (h : Row w base 1 v n (xs.map (.int .i64))) :
    xs.length = n ∧ ((v = .slice none 0 0 ∧ n = 0) ∨ ∃ b off cap, v = .slice (some ⟨b, off, none⟩) n cap ∧ base ≤ b ∧ b < w.heap.size ∧ n ≤ cap ∧ cap ≤ maxLen ∧ ∀ i : Int, 0 ≤ i → i < n → w.cell? ⟨b, off + i.toNat, none⟩ = some (.int .i64 (geti xs i))) := by
  obtain ⟨h1, h2⟩ := h.int_at
  refine ⟨h1, ?_⟩
  rcases h2 with h2 | ⟨b, off, cap, e, hb, hlt, hn, hc, hcell⟩
  · exact .inl h2
  · exact .inr ⟨b, off, cap, e, hb, hlt, hn, hc, fun i h0 hi => hcell i.toNat (by omega)⟩
/-- v is a slice of the n numbers zs, whose block (if there are any) lies below B. -/
def SRow (w : World) (v : Value) (n : Nat) (zs : List Int) (B : Nat) : Prop :=
  (n = 0 ∧ ∃ a c, v = .slice a 0 c) ∨ (Row w 0 1 v n (zs.map (.int .i64)) ∧ ∀ k, v.ownBlock = some k → k < B)

/-- Block B holds a stream: a list of numbers (in a block below B) and how many were drawn, at most b. -/
def Str (B : Nat) (w : World) (b : Nat) : Prop :=
  ∃ (v : Value) (n : Nat) (zs : List Int) (t : Int), w.cell? ⟨B, 0, none⟩ = some v ∧ w.cell? ⟨B, 1, none⟩ = some (.int .i64 t) ∧ w.frozen? ⟨B, 1, none⟩ = false ∧
    0 ≤ t ∧ t ≤ b ∧ SRow w v n zs B

theorem Str.lt {B b : Nat} {w : World} (h : Str B w b) : B < w.heap.size := by
  obtain ⟨v, n, zs, t, h0, _⟩ := h
  exact World.block_lt_of_cell? w _ h0

theorem Str.mono {B b b' : Nat} {w : World} (h : Str B w b) (hb : b ≤ b') : Str B w b' := by
  obtain ⟨v, n, zs, t, h0, h1, h2, h3, h4, r⟩ := h
  exact ⟨v, n, zs, t, h0, h1, h2, h3, by omega, r⟩

theorem Row.swap {w w' : World} {base sz n : Nat} {v : Value} {cs : List Value} (h : Row w base sz v n cs)
    (hb : ∀ k, v.ownBlock = some k → w'.heap[k]? = w.heap[k]?) (hs : w.heap.size ≤ w'.heap.size) : Row w' base sz v n cs := by
  obtain ⟨h1, h2⟩ := h
  refine ⟨h1, ?_⟩
  rcases h2 with h2 | ⟨b, off, cap, rfl, hb', hlt, hn, hc, hcell⟩
  · exact .inl h2
  · refine .inr ⟨b, off, cap, rfl, hb', Nat.lt_of_lt_of_le hlt hs, hn, hc, fun i u hu => ?_⟩
    rw [World.cell?_of_block (w := w) (hb b rfl)]
    exact hcell i u hu

theorem SRow.swap {w w' : World} {v : Value} {n B : Nat} {zs : List Int} (h : SRow w v n zs B) (hb : ∀ k, k < B → w'.heap[k]? = w.heap[k]?) (hs : w.heap.size ≤ w'.heap.size) : SRow w' v n zs B := by
  rcases h with h | ⟨h, hk⟩
  · exact .inl h
  · exact .inr ⟨h.swap (fun k e => hb k (hk k e)) hs, hk⟩

/-- What leaves block B and the blocks below it alone leaves the stream. -/
theorem Str.below {B b : Nat} {w w' : World} (h : Str B w b) (g : Below w.heap.size w w') : Str B w' b := by
  have hlt := h.lt
  obtain ⟨v, n, zs, t, h0, h1, h2, h3, h4, h5⟩ := h
  exact ⟨v, n, zs, t, (g.cell (p := ⟨B, 0, none⟩) hlt).trans h0, (g.cell (p := ⟨B, 1, none⟩) hlt).trans h1, (g.frozen (p := ⟨B, 1, none⟩) hlt).trans h2, h3, h4,
    h5.swap (fun k hk => g.block k (Nat.lt_trans hk hlt)) g.size⟩

theorem grown_setCell (w : World) (B o : Nat) (u : Value) : w.grownBy (w.setCell ⟨B, o, none⟩ u) (some B) :=
  ⟨rfl, rfl, rfl, by simp [World.setCell], fun k _ hk => Below.heap_setCell _ _ _ _ (fun e => hk (by simp [e]))⟩

theorem grown_trans {w w1 w2 : World} {row : Option Nat} (g : w.grownBy w1 row) (g' : w1.grownBy w2 row) : w.grownBy w2 row :=
  ⟨g'.os.trans g.os, g'.tape.trans g.tape, g'.output.trans g.output, Nat.le_trans g.size g'.size, fun k hk hr => (g'.block k (Nat.lt_of_lt_of_le hk g.size) hr).trans (g.block k hk hr)⟩

theorem grown_of_below {w w' : World} {row : Option Nat} (g : Below w.heap.size w w') : w.grownBy w' row :=
  ⟨g.os, g.tape, g.output, g.size, fun k hk _ => g.block k hk⟩

theorem grown_refl (w : World) (row : Option Nat) : w.grownBy w row := ⟨rfl, rfl, rfl, Nat.le_refl _, fun _ _ _ => rfl⟩

theorem grown_drewN {w w' : World} {row : Option Nat} (g : w.grownBy w' row) (k : Nat) : w.grownBy (w'.drewN k) row :=
  ⟨g.os, g.tape, g.output, g.size, g.block⟩

theorem Str.drewN {B b : Nat} {w : World} (h : Str B w b) (k : Nat) : Str B (w.drewN k) b := h

/-- What the program's table says of a slice type t of elements e. -/
structure Elem (P : Program) (t e : TypeId) (z : Value) (size bytes : Nat) : Prop where
  ht : P.underlying t = some (.slice e)
  hi : (P.info? e).map (fun i => (i.zero, i.size, i.bytes)) = some (some z, size, bytes)
  hz : z.cells.size = size
  hs : 0 < size
  hb : bytes ≤ 128


/-- append of news to a slice that the call owns. -/
theorem app_law {P : Program} {ops : Array Oper} {rest : List Oper} {o : Oper} {a : Act} {Q : Exit → Act → World → Prop} {W : World} (hgd : o.guard = none) (s x : Operand) (t : TypeId)
    (ho : o.op = .call { callee := .builtin .append, args := #[s, x], argTypes := #[t, t] })
    {e : TypeId} {z : Value} {size bytes : Nat} (E : Elem P t e z size bytes) {base : Nat} {v : Value} {n : Nat} {xs : List Value} (hown : W.ownsRow base e size v n xs) (hs : a.eval s = v)
    {g m c : Nat} (news : List Value) (hx : a.eval x = .slice (some ⟨g, 0, none⟩) m c) (hl : news.length = m * size) (hnews : ∀ j u, news[j]? = some u → W.cell? ⟨g, j, none⟩ = some u) (h1 : ∀ u ∈ news, u.oneCell' = true)
    (hlim : n + m ≤ 1099511627776) (hbase : base ≤ W.heap.size)
    (h : ∀ v' w', w'.ownsRow base e size v' (n + m) (xs ++ news) → W.grownBy w' v.ownBlock → wpList P ops Q rest (a.put o.dst v') w') : wpList P ops Q (o :: rest) a W := by
  obtain ⟨i, hi, hz0, hz1, hz2⟩ := info_parts E.hi
  refine wpList_append_own W hgd s x t ho base e i z size bytes E.ht hi hz0 hz1 hz2 E.hz E.hs v n xs hs hown ⟨g, 0, none⟩ m c news hx hl (fun j u hj => ?_) h1 (by unfold maxLen; omega) ?_ hbase (fun v' w' h1 h2 _ => h v' w' h1 h2)
  · rw [Addr.add_lit]
    simpa using hnews j u hj
  · have := Nat.mul_le_mul hlim E.hb
    omega

theorem owns_shape {w : World} {base e sz n : Nat} {v : Value} {xs : List Value} (h : w.ownsRow base e sz v n xs) (hn : 0 < n) : ∃ g cap, v = .slice (some ⟨g, 0, none⟩) n cap ∧ base ≤ g ∧ g < w.heap.size ∧ n ≤ cap ∧ cap ≤ maxLen := by
  rcases h.2 with ⟨_, rfl⟩ | ⟨g, cap, cur, rfl, hb, hg, h1, h2, _⟩
  · omega
  · exact ⟨g, cap, rfl, hb, (Array.getElem?_eq_some_iff.1 hg).1, h1, h2⟩

theorem owns_mono {w : World} {base base' e sz n : Nat} {v : Value} {xs : List Value} (h : w.ownsRow base e sz v n xs) (hb : base' ≤ base) : w.ownsRow base' e sz v n xs := by
  refine ⟨h.1, ?_⟩
  rcases h.2 with h2 | ⟨g, cap, cur, rfl, hb', r⟩
  · exact .inl h2
  · exact .inr ⟨g, cap, cur, rfl, Nat.le_trans hb hb', r⟩

/-- What lies below base, or is owned from base on: below B. -/
theorem below_grown {B base e sz n : Nat} {w0 w w' : World} {v : Value} {cs : List Value} (hB : Below B w0 w) (h : w.ownsRow base e sz v n cs) (g : w.grownBy w' v.ownBlock) (hb : B ≤ base) (hs : B ≤ w.heap.size) : Below B w0 w' :=
  hB.grown g hs (fun k hk => Nat.le_trans hb (h.lt k hk).1)

theorem owns_below {w w' : World} {B base e sz n : Nat} {v : Value} {cs : List Value} (h : w.ownsRow base e sz v n cs) (g : Below B w w') (hB : w.heap.size ≤ B) : w'.ownsRow base e sz v n cs :=
  h.kept (row := none) ⟨g.os, g.tape, g.output, g.size, fun k hk _ => g.block k (by omega)⟩ (by cases hv : v.ownBlock <;> simp)

/-- The number of elements of a slice. -/
def lenOf : Value → Nat | .slice _ n _ => n | _ => 0

/-- A slice literal of ints: one block, whole. -/
theorem owns_lit (w : World) (base e : TypeId) (cs : Array Value) (n : Nat) (hn : n ≤ 1099511627776) (hs : cs.size = n) (hb : base ≤ w.heap.size) :
    (w.alloc (.cells cs e)).ownsRow base e 1 (.slice (some ⟨w.heap.size, 0, none⟩) n n) n cs.toList :=
  ⟨by simp [hs], .inr ⟨w.heap.size, n, cs, rfl, hb, heap_alloc_new w _, Nat.le_refl _, by unfold maxLen; omega, by simp [hs], by rw [List.take_of_length_le (by simp [hs])]⟩⟩

theorem below_app {B base e sz n : Nat} {w0 w w' : World} {v : Value} {cs : List Value} {o : Obj} (hB : Below B w0 w) (h : w.ownsRow base e sz v n cs) (g : (w.alloc o).grownBy w' v.ownBlock) (hb : B ≤ base) (hs : B ≤ w.heap.size) : Below B w0 w' :=
  below_grown (hB.alloc hs o) (h.alloc o) g hb (by simp; omega)

theorem cells_new (w : World) (cs : Array Value) (e : TypeId) : ∀ j u, cs.toList[j]? = some u → (w.alloc (.cells cs e)).cell? ⟨w.heap.size, j, none⟩ = some u := by
  intro j u h
  rw [World.cell?_alloc_at _ _ _ _ rfl]
  simpa using h

theorem cells_at (w : World) (cs : Array Value) (e : TypeId) (g : Nat) (hg : g = w.heap.size) : ∀ j u, cs.toList[j]? = some u → (w.alloc (.cells cs e)).cell? ⟨g, j, none⟩ = some u := by
  subst hg
  exact cells_new w cs e

/-- One step of a stream. -/
theorem Str.step {B b : Nat} {w : World} {v : Value} {n : Nat} {zs : List Int} {t : Int} (h0 : w.cell? ⟨B, 0, none⟩ = some v) (h1 : w.cell? ⟨B, 1, none⟩ = some (.int .i64 t))
    (h2 : w.frozen? ⟨B, 1, none⟩ = false) (h3 : 0 ≤ t) (h4 : t ≤ b) (h5 : SRow w v n zs B) :
    Str B (w.setCell ⟨B, 1, none⟩ (.int .i64 (t + 1))) (b + 1) := by
  refine ⟨v, n, zs, t + 1, ?_, ?_, ?_, by omega, by omega, h5.swap (fun k hk => Below.heap_setCell _ _ _ _ (fun e => by simp at e; omega)) (by simp [World.setCell])⟩
  · rw [World.cell?_setCell_other _ _ _ _ (by simp)]; exact h0
  · exact World.cell?_setCell_same' _ _ _ (by rw [h1]; rfl)
  · rw [World.frozen?_setCell]; exact h2
/-- The cells of an owned row of ints. -/
theorem owns_sizes {w : World} {base e n sz g cap : Nat} {xs : List Value} (h : w.ownsRow base e sz (.slice (some ⟨g, 0, none⟩) n cap) n xs) : base ≤ g ∧ g < w.heap.size ∧ n ≤ cap ∧ cap ≤ 9223372036854775807 := by
  rcases h.2 with ⟨h, _⟩ | ⟨g', cap', cur, h, hb, hg, h1, h2, _⟩
  · cases h
  · simp only [Value.slice.injEq, Option.some.injEq, Addr.mk.injEq] at h
    obtain ⟨⟨rfl, _⟩, _, rfl⟩ := h
    exact ⟨hb, (Array.getElem?_eq_some_iff.1 hg).1, h1, by unfold maxLen at h2; omega⟩

theorem ints_of_owns {w : World} {base e n g cap : Nat} {xs : List Int} (h : w.ownsRow base e 1 (.slice (some ⟨g, 0, none⟩) n cap) n (xs.map (.int .i64))) :
    ∀ i : Int, 0 ≤ i → i < xs.length → w.cell? ⟨g, i.toNat, none⟩ = some (.int .i64 (geti xs i)) := by
  intro i h0 h1
  have := h.cells (g := g) rfl i.toNat (.int .i64 (geti xs i)) (by unfold geti; rw [List.getElem?_map, List.getElem?_eq_getElem (by omega)]; simp)
  rw [Addr.add_lit] at this
  simpa using this
theorem ret_int {k : IntKind} {a b : Int} (h : a = b) : Ending.returned (.int k a) = .returned (.int k b) := by rw [h]
theorem ret_vi {v : Value} {c d : Int} (h' : c = d) : Ending.returned (.tuple #[v, .int .i64 c]) = .returned (.tuple #[v, .int .i64 d]) := by rw [h']
theorem ret_bool {a b : Bool} (h : a = b) : Ending.returned (.bool a) = .returned (.bool b) := by rw [h]
theorem ret_ii {a b c d : Int} (h : a = b) (h' : c = d) : Ending.returned (.tuple #[.int .i64 a, .int .i64 c]) = .returned (.tuple #[.int .i64 b, .int .i64 d]) := by rw [h, h']
theorem below_drewN {B : Nat} {w w' : World} (h : Below B w w') (k : Nat) : Below B w (w'.drewN k) := ⟨h.os, h.tape, h.output, h.size, h.block⟩
/-- The first of the codes f 0, f 1, .. that is not 0. -/
def firstErr (f : Int → Int) (n : Int) : Int := (((List.range n.toNat).map (fun (j : Nat) => f j)).find? (fun x => x != 0)).getD 0
def NoErr (f : Int → Int) (i : Int) : Prop := ∀ j : Int, 0 ≤ j → j < i → f j = 0
theorem NoErr.zero (f : Int → Int) : NoErr f 0 := fun _ _ _ => by omega
theorem NoErr.step {f : Int → Int} {i : Int} (h : NoErr f i) (hf : f i = 0) : NoErr f (i + 1) := fun j h0 h1 => by
  by_cases e : j = i
  · subst e; exact hf
  · exact h j h0 (by omega)
theorem firstErr_none {f : Int → Int} {n : Int} (h : NoErr f n) : firstErr f n = 0 := by
  unfold firstErr
  rw [List.find?_eq_none.2]
  · rfl
  · intro x hx
    obtain ⟨j, hj, rfl⟩ := List.mem_map.1 hx
    simp [h j (by omega) (by have := List.mem_range.1 hj; omega)]
theorem firstErr_hit {f : Int → Int} {n i : Int} (h : NoErr f i) (h0 : 0 ≤ i) (h1 : i < n) (hf : f i ≠ 0) : firstErr f n = f i := by
  unfold firstErr
  have e : List.range n.toNat = List.range i.toNat ++ i.toNat :: (List.range (n.toNat - i.toNat - 1)).map (· + (i.toNat + 1)) := by
    have : n.toNat = i.toNat + (1 + (n.toNat - i.toNat - 1)) := by omega
    rw [this, List.range_add, List.range_add]
    simp [List.range_one, Function.comp_def]
    intro a _
    omega
  rw [e, List.map_append, List.find?_append]
  have hn : List.find? (fun x => x != 0) ((List.range i.toNat).map fun (j : Nat) => f j) = none := by
    rw [List.find?_eq_none]
    intro x hx
    obtain ⟨j, hj, rfl⟩ := List.mem_map.1 hx
    simp [h j (by omega) (by have := List.mem_range.1 hj; omega)]
  rw [hn]
  simp [show ((i.toNat : Nat) : Int) = i by omega, hf]

theorem firstErr_zero {f : Int → Int} {n : Int} (h : firstErr f n = 0) (i : Int) (h0 : 0 ≤ i) (h1 : i < n) : f i = 0 := by
  by_cases hi : f i = 0
  · exact hi
  · exfalso
    have key : ∀ m : Nat, (m : Int) ≤ i → (∀ j : Int, 0 ≤ j → j < m → f j = 0) ∨ ∃ k : Int, 0 ≤ k ∧ k < n ∧ NoErr f k ∧ f k ≠ 0 := by
      intro m
      induction m with
      | zero => exact fun _ => .inl fun j a b => by omega
      | succ m ih =>
        intro hm
        rcases ih (by omega) with a | a
        · by_cases hf : f m = 0
          · exact .inl fun j b c => by
              by_cases e : j = m
              · subst e; exact hf
              · exact a j b (by omega)
          · exact .inr ⟨m, by omega, by omega, fun j b c => a j b c, hf⟩
        · exact .inr a
    rcases key i.toNat (by omega) with a | ⟨k, a, b, c, d⟩
    · have := firstErr_hit (f := f) (n := n) (i := i) (fun j b c => a j b (by omega)) h0 h1 hi
      rw [h] at this; exact hi this.symm
    · have := firstErr_hit c a b d
      rw [h] at this; exact d this.symm

/-- A part of a row of ints. -/
def subl (l : List Int) (lo hi : Int) : List Int := (l.take hi.toNat).drop lo.toNat
theorem Row.sub {w : World} {base n cap b off : Nat} {l : List Int} (h : Row w base 1 (.slice (some ⟨b, off, none⟩) n cap) n (l.map (.int .i64))) (lo hi : Int) (h0 : 0 ≤ lo) (h1 : lo ≤ hi) (h2 : hi ≤ n) :
    Row w base 1 (.slice (some ⟨b, off + lo.toNat, none⟩) (hi - lo).toNat (cap - lo.toNat)) (hi - lo).toNat ((subl l lo hi).map (.int .i64)) := by
  obtain ⟨hl, h⟩ := h
  rcases h with ⟨h, _⟩ | ⟨b', off', cap', h, hb, hlt, hn, hc, hcell⟩
  · cases h
  · simp only [Value.slice.injEq, Option.some.injEq, Addr.mk.injEq] at h
    obtain ⟨⟨rfl, rfl, _⟩, _, rfl⟩ := h
    simp at hl
    refine ⟨by simp [subl]; omega, .inr ⟨b, off + lo.toNat, cap - lo.toNat, rfl, hb, hlt, by omega, by unfold maxLen at *; omega, fun i u hu => ?_⟩⟩
    have hi : i < (subl l lo hi).length := by
      rw [List.getElem?_map] at hu
      cases hx : (subl l lo hi)[i]? with
      | none => rw [hx] at hu; cases hu
      | some x => exact (List.getElem?_eq_some_iff.1 hx).1
    have := hcell (lo.toNat + i) u (by
      rw [List.getElem?_map] at hu ⊢
      rw [← hu]
      congr 1
      unfold subl at hi ⊢
      rw [List.getElem?_drop, List.getElem?_take, if_pos]
      simp at hi
      omega)
    rwa [← Nat.add_assoc] at this
end Go.Bw
