/-
  A region that draws its order, met by an invariant over the set of the operations that have come up; and a store into an owned row of structs. No condition on a program.
-/
import Derived.Test.YtbidnbcclibigaaDoorRR
namespace Go.Bw
open Go.RowKit

section
variable {P : Program} {ops : Array Oper} {Q : Exit → Act → World → Prop} {md : Region.Mode}

theorem filt_le {p p' : Nat → Bool} (hle : ∀ j, p' j = true → p j = true) : ∀ l : List Nat, (l.filter p').length ≤ (l.filter p).length
  | [] => by simp
  | x :: l => by
    have ih := filt_le hle l
    rw [List.filter_cons, List.filter_cons]
    cases h' : p' x
    · cases h : p x <;> simp <;> omega
    · rw [hle x h']; simpa using ih

theorem filt_lt {p p' : Nat → Bool} (hle : ∀ j, p' j = true → p j = true) {i : Nat} (hp : p i = true) (hp' : p' i = false) : ∀ l : List Nat, i ∈ l → (l.filter p').length < (l.filter p).length
  | [], h => by cases h
  | x :: l, h => by
    rw [List.filter_cons, List.filter_cons]
    rcases List.mem_cons.1 h with rfl | h
    · have := filt_le hle l
      rw [hp, hp']
      simp
      omega
    · have ih := filt_lt hle hp hp' l h
      cases h' : p' x
      · cases h2 : p x <;> simp <;> omega
      · rw [hle x h']; simpa using ih

/-- How many have not come up. -/
def unl (ops : Array Oper) (listed : Array Bool) : Nat := ((List.range ops.size).filter fun i => !listed.getD i true).length

theorem unl_set {listed : Array Bool} {i : Nat} (hi : i < ops.size) (h : listed.getD i true = false) : unl ops (listed.setIfInBounds i true) < unl ops listed := by
  refine filt_lt (fun j hj => ?_) (i := i) (by simp [h]) ?_ _ (List.mem_range.2 hi)
  · by_cases hij : i = j
    · subst hij
      simp only [Bool.not_eq_true'] at *
      exact h
    · rwa [getD_set_ne true hij] at hj
  · have hlt : i < listed.size := by
      rcases Nat.lt_or_ge i listed.size with h' | h'
      · exact h'
      · simp [Array.getElem?_eq_none h'] at h
    simp [hlt]

theorem ready_nil {listed : Array Bool} (h : unl ops listed = 0) : Region.ready md ops listed = [] := by
  refine List.eq_nil_iff_forall_not_mem.2 fun j hj => ?_
  obtain ⟨h0, o, ho, _⟩ := mem_ready.1 hj
  have hlt := (Array.getElem?_eq_some_iff.1 ho).1
  have : j ∈ (List.range ops.size).filter fun i => !listed.getD i true := List.mem_filter.2 ⟨List.mem_range.2 hlt, by rw [h0]; rfl⟩
  rw [List.length_eq_zero_iff.1 h] at this
  cases this

theorem wpAny_inv (Inv : Array Bool → Act → World → Prop)
    (hstep : ∀ i, i < ops.size → ∀ listed a w, i ∈ Region.ready md ops listed → Inv listed a w → wpOp P ops Q i (Inv (listed.setIfInBounds i true)) a w)
    (hend : ∀ listed a w, Inv listed a w → Q .normal a w) : ∀ fuel listed a w, unl ops listed ≤ fuel → Inv listed a w → wpAny P md ops Q fuel listed a w
  | 0, listed, a, w, hu, hI => ⟨ready_nil (by omega), hend _ _ _ hI⟩
  | fuel + 1, listed, a, w, hu, hI => ⟨fun _ => hend _ _ _ hI, fun i hi => by
      obtain ⟨h0, o, ho, _⟩ := mem_ready.1 hi
      have hlt := (Array.getElem?_eq_some_iff.1 ho).1
      have := unl_set hlt h0
      exact wpOp_mono (fun a w h => wpAny_inv Inv hstep hend fuel _ a w (by omega) h) (hstep i hlt listed a w hi hI)⟩

theorem wp_region_inv {id : Nat} {a : Act} {w : World} (hm : P.follows .mixedOrders = true) (Inv : Array Bool → Act → World → Prop)
    (h0 : Inv (Array.replicate ops.size false) a w.drew)
    (hend : ∀ listed a w, Inv listed a w → Q .normal a w)
    (hstep : ∀ i, i < ops.size → ∀ listed a w, i ∈ Region.ready .any ops listed → Inv listed a w → wpOp P ops Q i (Inv (listed.setIfInBounds i true)) a w) :
    (Code.region id ops true).wp P Q a w :=
  wp_region_any hm (wpAny_inv Inv hstep hend _ _ _ _ (by
    unfold unl
    exact Nat.le_trans (List.length_filter_le _ _) (by simp)) h0)

/-- Does i wait for j? -/
def waits (md : Region.Mode) (ops : Array Oper) (i j : Nat) : Bool :=
  match ops[i]? with
  | some o => o.after.any fun e => Region.binds md e && e.on == j
  | none => false
theorem waits_listed {listed : Array Bool} {i j : Nat} (hr : i ∈ Region.ready md ops listed) (h : waits md ops i j = true) : listed.getD j false = true := by
  obtain ⟨_, o, ho, hall⟩ := mem_ready.1 hr
  unfold waits at h
  simp only [ho] at h
  obtain ⟨e, he, hb⟩ := Array.any_eq_true'.1 h
  simp only [Bool.and_eq_true, beq_iff_eq] at hb
  rw [← hb.2]
  exact hall e he hb.1
theorem ready_new {listed : Array Bool} {i : Nat} (hr : i ∈ Region.ready md ops listed) : listed.getD i true = false := (mem_ready.1 hr).1
end

/-- A store into an owned row. -/
theorem owns_setc {w : World} {base e sz n g cap : Nat} {xs : List Value} (h : w.ownsRow base e sz (.slice (some ⟨g, 0, none⟩) n cap) n xs) (i : Nat) (u : Value) :
    (w.setCell ⟨g, i, none⟩ u).ownsRow base e sz (.slice (some ⟨g, 0, none⟩) n cap) n (xs.set i u) := by
  obtain ⟨h1, h2⟩ := h
  refine ⟨by simpa using h1, ?_⟩
  rcases h2 with ⟨h2, _⟩ | ⟨g', cap', cur, hv, hb, hg, hn, hc, hs, ht⟩
  · cases h2
  · simp only [Value.slice.injEq, Option.some.injEq, Addr.mk.injEq] at hv
    obtain ⟨⟨rfl, _⟩, _, rfl⟩ := hv
    refine .inr ⟨g, cap, cur.setIfInBounds i u, rfl, hb, ?_, hn, hc, by simpa using hs, ?_⟩
    · have hlt := (Array.getElem?_eq_some_iff.1 hg).1
      simp only [World.setCell, Array.getElem?_modify, if_true, hg, Option.map_some]
      rfl
    · rw [← ht, Array.toList_setIfInBounds]
      exact List.take_set.symm ▸ rfl
theorem owns_frozen {w : World} {base e sz n g cap : Nat} {xs : List Value} (h : w.ownsRow base e sz (.slice (some ⟨g, 0, none⟩) n cap) n xs) (i : Nat) : w.frozen? ⟨g, i, none⟩ = false := by
  rcases h.2 with ⟨h2, _⟩ | ⟨g', cap', cur, hv, hb, hg, hn, hc, hs, ht⟩
  · cases h2
  · simp only [Value.slice.injEq, Option.some.injEq, Addr.mk.injEq] at hv
    obtain ⟨⟨rfl, _⟩, _, rfl⟩ := hv
    unfold World.frozen?
    rw [hg]
    simp
theorem owns_cell {w : World} {base e sz n g cap : Nat} {xs : List Value} (h : w.ownsRow base e sz (.slice (some ⟨g, 0, none⟩) n cap) n xs) (i : Nat) (u : Value) (hu : xs[i]? = some u) : w.cell? ⟨g, i, none⟩ = some u := by
  rcases (Row.of_owns h).2 with ⟨h2, _⟩ | ⟨g', off, cap', hv, _, _, _, _, hc⟩
  · cases h2
  · simp only [Value.slice.injEq, Option.some.injEq, Addr.mk.injEq] at hv
    obtain ⟨⟨rfl, rfl, _⟩, _, rfl⟩ := hv
    have := hc i u hu
    rwa [Nat.zero_add] at this
theorem cellsOf_set {α : Type} (enc : α → List Value) (sz : Nat) (h : ∀ x, (enc x).length = sz) (l : List α) : ∀ (k : Nat) (hk : k < l.length) (j : Nat) (hj : j < sz) (u : Value) (a' : α), enc a' = (enc l[k]).set j u → (cellsOf enc l).set (k * sz + j) u = cellsOf enc (l.set k a') := by
  induction l with
  | nil => intro k hk; simp at hk
  | cons x l ih =>
    intro k hk j hj u a' ha
    cases k with
    | zero =>
      rw [cellsOf_cons, List.set_cons_zero, cellsOf_cons, ha, Nat.zero_mul, Nat.zero_add, List.set_append_left _ _ (by rw [h]; exact hj)]
      rfl
    | succ k =>
      rw [cellsOf_cons, List.set_cons_succ, cellsOf_cons, List.set_append_right _ _ (by rw [h, Nat.add_mul]; omega), h,
        show (k + 1) * sz + j - sz = k * sz + j by rw [Nat.add_mul]; omega, ih k (by simpa using hk) j hj u a' (by simpa using ha)]
theorem Blk.row {w : World} {g n : Nat} {cs : List Value} (h : Blk w g cs) (hn : cs.length = n) (hm : n ≤ 1099511627776) : Row w 0 1 (.slice (some ⟨g, 0, none⟩) n n) n cs :=
  ⟨by omega, .inr ⟨g, 0, n, rfl, Nat.zero_le _, h.1, Nat.le_refl _, by unfold maxLen; omega, fun i u hu => by rw [Nat.zero_add]; exact h.2.1 i u hu⟩⟩
end Go.Bw
