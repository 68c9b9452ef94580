/-
  The region of Rules that draws its order. Conditions: the bounds that each theorem names.
-/
import Derived.Test.YtbidnbcclibigaaDoorRInv
namespace Go.Proofs.YtbidnbcclibigaaDoor
open Go.RowKit Go.Bw
noncomputable def rulesB : Code := (Tryd.f4.body).getD .skip
/-- What a slot of the region holds. -/
inductive K7 | el (o : Nat) | st | str | sl (n : Nat)
def slot7 (i : Nat) : Nat := if i < 22 then i + 29 else if i < 25 then i + 28 else i + 27
def kind7 : Nat → K7
  | 3 => .st
  | 7 => .str
  | 8 => .sl 3
  | 9 => .str
  | 10 => .st
  | 13 => .el 1
  | 14 => .str
  | 15 => .sl 2
  | 16 => .str
  | 17 => .st
  | 18 => .sl 2
  | 19 => .str
  | 24 => .el 1
  | 27 => .el 2
  | _ => .el 0
def Lg (s : ByteArray) : Prop := s.size ≤ 9223372036854775807
instance (s : ByteArray) : Decidable (Lg s) := inferInstanceAs (Decidable (s.size ≤ 9223372036854775807))
def Has7 (B g q : Nat) (w : World) (v : Option Value) : K7 → Prop
  | .el o => v = some (.pointer (some ⟨g, q + o, none⟩))
  | .st => v = some (.pointer (some ⟨B, 0, none⟩))
  | .str => ∃ s, Lg s ∧ v = some (.string s)
  | .sl n => ∃ h xs, v = some (.slice (some ⟨h, 0, none⟩) n n) ∧ h ≠ B ∧ h ≠ g ∧ (∀ s ∈ xs, Lg s) ∧ xs.length = n ∧ Blk w h (cellsOf encS xs)
def Keep7 (B g : Nat) (w w' : World) : Prop := ∀ h cs, h ≠ B → h ≠ g → Blk w h cs → Blk w' h cs
theorem Has7.keep {B g q : Nat} {w w' : World} {v : Option Value} {k : K7} (hk : Keep7 B g w w') (h : Has7 B g q w v k) : Has7 B g q w' v k := by
  cases k with
  | el o => exact h
  | st => exact h
  | str => exact h
  | sl n =>
    obtain ⟨h, xs, h1, h2, h3, h4, h5, h6⟩ := h
    exact ⟨h, xs, h1, h2, h3, h4, h5, hk _ _ h2 h3 h6⟩
/-- The world: the stream drawn from, the rules whole. -/
structure W7 (w0 : World) (B bs g n cap b : Nat) (w : World) : Prop where
  own : ∃ rs : List RuleL, rs.length = n ∧ AllOk rs ∧ w.ownsRow bs 57 7 (.slice (some ⟨g, 0, none⟩) n cap) n (cellsOf encR rs)
  dr : Drawn B w0 w b
  hg : g < w.heap.size
theorem W7.drawn {w0 w w' : World} {B bs g n cap b b' : Nat} (hB : B < bs) (h : W7 w0 B bs g n cap b w) (d : Drawn B w w' b') : W7 w0 B bs g n cap b' w' := by
  obtain ⟨⟨rs, h1, h2, h3⟩, h4, h5⟩ := h
  exact ⟨⟨rs, h1, h2, owns_drawn h3 d hB⟩, h4.trans d, Nat.lt_of_lt_of_le h5 d.size⟩
theorem W7.alloc {w0 w : World} {B bs g n cap b : Nat} (hB : B < bs) (h : W7 w0 B bs g n cap b w) (o : Obj) : W7 w0 B bs g n cap b (w.alloc o) :=
  h.drawn hB ((Drawn.refl h.dr.str).alloc o)
theorem W7.store {w0 w : World} {B bs g n cap b : Nat} (h : W7 w0 B bs g n cap b w) (hn : B < g) (hw : w0.heap.size ≤ g) (r j : Nat) (hr : r < n) (hj : j < 3) (s : ByteArray) (hs : Lg s) :
    W7 w0 B bs g n cap b (w.setCell ⟨g, r * 7 + j, none⟩ (.string s)) := by
  obtain ⟨⟨rs, h1, h2, h3⟩, h4, h5⟩ := h
  have hrl : r < rs.length := by omega
  have hok := h2 rs[r] (List.getElem_mem hrl)
  have key : ∀ a' : RuleL, RuleOk a' → encR a' = (encR rs[r]).set j (.string s) → W7 w0 B bs g n cap b (w.setCell ⟨g, r * 7 + j, none⟩ (.string s)) := fun a' ha he => by
    refine ⟨⟨rs.set r a', by simpa using h1, ?_, ?_⟩, h4.set _ hw hn, by simpa [World.setCell] using h5⟩
    · intro x hx
      rcases List.mem_or_eq_of_mem_set hx with hx | rfl
      · exact h2 x hx
      · exact ha
    · rw [← cellsOf_set encR 7 encR_length rs r hrl j (by omega) (.string s) a' he]
      exact owns_setc h3 _ _
  have hj' : j = 0 ∨ j = 1 ∨ j = 2 := by omega
  rcases hj' with rfl | rfl | rfl
  · exact key { rs[r] with key := s } ⟨hs, hok.2, hok.3, hok.4, hok.5, hok.6, hok.7⟩ rfl
  · exact key { rs[r] with stat := s } ⟨hok.1, hs, hok.3, hok.4, hok.5, hok.6, hok.7⟩ rfl
  · exact key { rs[r] with pos := s } ⟨hok.1, hok.2, hs, hok.4, hok.5, hok.6, hok.7⟩ rfl
theorem W7.cell {w0 w : World} {B bs g n cap b : Nat} (h : W7 w0 B bs g n cap b w) (r j : Nat) (hr : r < n) (hj : j < 3) : (∃ s, Lg s ∧ w.cell? ⟨g, r * 7 + j, none⟩ = some (.string s)) ∧ w.frozen? ⟨g, r * 7 + j, none⟩ = false := by
  obtain ⟨⟨rs, h1, h2, h3⟩, h4, h5⟩ := h
  have hrl : r < rs.length := by omega
  have hok := h2 rs[r] (List.getElem_mem hrl)
  refine ⟨?_, owns_frozen h3 _⟩
  have key : ∀ s, (encR rs[r])[j]? = some (.string s) → w.cell? ⟨g, r * 7 + j, none⟩ = some (.string s) := fun s hs =>
    owns_cell h3 _ _ (by rw [cellsOf_get encR 7 encR_length rs r hrl j (by omega)]; exact hs)
  have hj' : j = 0 ∨ j = 1 ∨ j = 2 := by omega
  rcases hj' with rfl | rfl | rfl
  · exact ⟨_, hok.1, key _ rfl⟩
  · exact ⟨_, hok.2, key _ rfl⟩
  · exact ⟨_, hok.3, key _ rfl⟩
def cnt7 (listed : Array Bool) : Nat := (listed.getD 9 false).toNat + (listed.getD 16 false).toNat + (listed.getD 19 false).toNat
theorem cnt_le (listed : Array Bool) : cnt7 listed ≤ 3 := by
  unfold cnt7
  have := Bool.toNat_le (listed.getD 9 false)
  have := Bool.toNat_le (listed.getD 16 false)
  have := Bool.toNat_le (listed.getD 19 false)
  omega
theorem cnt_ne {listed : Array Bool} {i : Nat} (h9 : i ≠ 9) (h16 : i ≠ 16) (h19 : i ≠ 19) : cnt7 (listed.setIfInBounds i true) = cnt7 listed := by
  unfold cnt7
  rw [getD_set_ne false h9, getD_set_ne false h16, getD_set_ne false h19]
theorem getD_new {listed : Array Bool} {i : Nat} (h : listed.getD i true = false) : listed.getD i false = false ∧ (listed.setIfInBounds i true).getD i false = true := by
  have hlt : i < listed.size := by
    rcases Nat.lt_or_ge i listed.size with h' | h'
    · exact h'
    · simp [Array.getElem?_eq_none h'] at h
  simp [hlt] at h ⊢
  exact h
theorem cnt_eq {listed : Array Bool} {i : Nat} (hi : i = 9 ∨ i = 16 ∨ i = 19) (h : listed.getD i true = false) : cnt7 (listed.setIfInBounds i true) = cnt7 listed + 1 := by
  obtain ⟨h1, h2⟩ := getD_new h
  unfold cnt7
  rcases hi with rfl | rfl | rfl
  · rw [h1, h2, getD_set_ne (i := 9) (j := 16) false (by decide), getD_set_ne (i := 9) (j := 19) false (by decide)]; simp; omega
  · rw [h1, h2, getD_set_ne (i := 16) (j := 9) false (by decide), getD_set_ne (i := 16) (j := 19) false (by decide)]; simp; omega
  · rw [h1, h2, getD_set_ne (i := 19) (j := 9) false (by decide), getD_set_ne (i := 19) (j := 16) false (by decide)]; simp
structure I7 (w0 : World) (B bs g r n cap b : Nat) (listed : Array Bool) (a : Act) (w : World) : Prop where
  sz : a.tmps.size = 68
  df : a.defers = []
  q0 : a.tmps[0]? = some (.pointer (some ⟨B, 0, none⟩))
  q3 : a.tmps[3]? = some (.slice (some ⟨g, 0, none⟩) n cap)
  q4 : a.tmps[4]? = some (.pointer (some ⟨g, r * 7, none⟩))
  wd : W7 w0 B bs g n cap (b + cnt7 listed) w
  ps : ∀ i, i < 28 → i ≠ 22 → i ≠ 25 → listed.getD i false = true → Has7 B g (r * 7) w a.tmps[slot7 i]? (kind7 i)
theorem I7.put {w0 : World} {B bs g r n cap b : Nat} {listed : Array Bool} {a : Act} {w w' : World} (h : I7 w0 B bs g r n cap b listed a w) (i : Nat) (hi : i < 28) (h22 : i ≠ 22) (h25 : i ≠ 25) {s : Nat} (hs : slot7 i = s)
    {v : Value} (hk : Keep7 B g w w') (hw : W7 w0 B bs g n cap (b + cnt7 (listed.setIfInBounds i true)) w') (hv : Has7 B g (r * 7) w' (some v) (kind7 i)) :
    I7 w0 B bs g r n cap b (listed.setIfInBounds i true) ⟨a.tmps.setIfInBounds s v, a.defers⟩ w' := by
  have hlo : 29 ≤ s ∧ s < 68 := by unfold slot7 at hs; split at hs <;> (try split at hs) <;> omega
  refine ⟨by simpa using h.sz, h.df, ?_, ?_, ?_, hw, fun j hj j22 j25 hl => ?_⟩
  · show (a.tmps.setIfInBounds s v)[0]? = _
    rw [Array.getElem?_setIfInBounds_ne (by omega)]; exact h.q0
  · show (a.tmps.setIfInBounds s v)[3]? = _
    rw [Array.getElem?_setIfInBounds_ne (by omega)]; exact h.q3
  · show (a.tmps.setIfInBounds s v)[4]? = _
    rw [Array.getElem?_setIfInBounds_ne (by omega)]; exact h.q4
  · show Has7 B g (r * 7) w' (a.tmps.setIfInBounds s v)[slot7 j]? (kind7 j)
    by_cases hij : i = j
    · subst hij
      rw [hs, Array.getElem?_setIfInBounds_self_of_lt (by rw [h.sz]; omega)]
      exact hv
    · have hne : s ≠ slot7 j := by rw [← hs]; unfold slot7; split <;> split <;> (try split) <;> (try split) <;> omega
      rw [Array.getElem?_setIfInBounds_ne hne]
      rw [getD_set_ne false hij] at hl
      exact (h.ps j hj j22 j25 hl).keep hk
theorem I7.stored {w0 : World} {B bs g r n cap b : Nat} {listed : Array Bool} {a : Act} {w w' : World} (h : I7 w0 B bs g r n cap b listed a w) (i : Nat) (hi : i = 22 ∨ i = 25 ∨ i = 28)
    (hk : Keep7 B g w w') (hw : W7 w0 B bs g n cap (b + cnt7 listed) w') : I7 w0 B bs g r n cap b (listed.setIfInBounds i true) a w' := by
  refine ⟨h.sz, h.df, h.q0, h.q3, h.q4, by rw [cnt_ne (by omega) (by omega) (by omega)]; exact hw, fun j hj j22 j25 hl => ?_⟩
  have hij : i ≠ j := by omega
  rw [getD_set_ne false hij] at hl
  exact (h.ps j hj j22 j25 hl).keep hk
theorem I7.drew {w0 : World} {B bs g r n cap b : Nat} {listed : Array Bool} {a : Act} {w : World} (h : I7 w0 B bs g r n cap b listed a w) : I7 w0 B bs g r n cap b listed a w.drew :=
  ⟨h.sz, h.df, h.q0, h.q3, h.q4, ⟨h.wd.own, h.wd.dr.drewN 1, h.wd.hg⟩, fun i h1 h2 h3 h4 => (h.ps i h1 h2 h3 h4).keep (fun _ _ _ _ hb => hb)⟩
theorem Keep7.refl (B g : Nat) (w : World) : Keep7 B g w w := fun _ _ _ _ h => h

set_option maxRecDepth 100000 in
set_option maxHeartbeats 4000000 in
theorem ru7 (w0 : World) (B bs g r n cap b : Nat) (hB : B < bs) (hw0 : w0.heap.size ≤ bs) (hBg : bs ≤ g) (hr : r < n) (hb : b ≤ 100000) (Q : Exit → Act → World → Prop) (a : Act) (w : World)
    (h0 : I7 w0 B bs g r n cap b (Array.replicate 29 false) a w)
    (hQ : ∀ listed a w, I7 w0 B bs g r n cap b listed a w → Q .normal a w) :
    (sel [1, 1, 0, 1, 2, 1, 1, 4, 1, 2] rulesB).wp Tryd.prog Q a w := by
  conv => arg 2; whnf
  refine wp_region_inv (by kernel_rfl) (I7 w0 B bs g r n cap b) h0.drew hQ ?_
  intro i hi listed a w hrd hI
  have hi' : i < 29 := hi
  clear h0 hQ hi
  have hnew := ready_new hrd
  have hBg' : B < g := by omega
  have hcase : i = 0 ∨ i = 1 ∨ i = 2 ∨ i = 3 ∨ i = 4 ∨ i = 5 ∨ i = 6 ∨ i = 7 ∨ i = 8 ∨ i = 9 ∨ i = 10 ∨ i = 11 ∨ i = 12 ∨ i = 13 ∨ i = 14 ∨ i = 15 ∨ i = 16 ∨ i = 17 ∨ i = 18 ∨ i = 19 ∨ i = 20 ∨ i = 21 ∨ i = 22 ∨ i = 23 ∨ i = 24 ∨ i = 25 ∨ i = 26 ∨ i = 27 ∨ i = 28 := by omega
  rcases hcase with rfl | rfl | rfl | rfl | rfl | rfl | rfl | rfl | rfl | rfl | rfl | rfl | rfl | rfl | rfl | rfl | rfl | rfl | rfl | rfl | rfl | rfl | rfl | rfl | rfl | rfl | rfl | rfl | rfl
  · have q0 := hI.q0
    have q4 := hI.q4
    refine wpOp_step rfl (fun K hK => ?_)
    go_simp
    refine hK _ _ ?_
    exact hI.put 0 (by decide) (by decide) (by decide) rfl (Keep7.refl _ _ _) (by rw [cnt_ne (by decide) (by decide) (by decide)]; exact hI.wd) rfl
  · have q0 := hI.q0
    have q4 := hI.q4
    refine wpOp_step rfl (fun K hK => ?_)
    go_simp
    refine hK _ _ ?_
    exact hI.put 1 (by decide) (by decide) (by decide) rfl (Keep7.refl _ _ _) (by rw [cnt_ne (by decide) (by decide) (by decide)]; exact hI.wd) rfl
  · have q0 := hI.q0
    have q4 := hI.q4
    refine wpOp_step rfl (fun K hK => ?_)
    go_simp
    refine hK _ _ ?_
    exact hI.put 2 (by decide) (by decide) (by decide) rfl (Keep7.refl _ _ _) (by rw [cnt_ne (by decide) (by decide) (by decide)]; exact hI.wd) rfl
  · have q0 := hI.q0
    have q4 := hI.q4
    refine wpOp_step rfl (fun K hK => ?_)
    go_simp
    refine hK _ _ ?_
    exact hI.put 3 (by decide) (by decide) (by decide) rfl (Keep7.refl _ _ _) (by rw [cnt_ne (by decide) (by decide) (by decide)]; exact hI.wd) rfl
  · have q0 := hI.q0
    have q4 := hI.q4
    refine wpOp_step rfl (fun K hK => ?_)
    go_simp
    refine hK _ _ ?_
    exact hI.put 4 (by decide) (by decide) (by decide) rfl (Keep7.refl _ _ _) (by rw [cnt_ne (by decide) (by decide) (by decide)]; exact hI.wd) rfl
  · have d4 := hI.ps 4 (by decide) (by decide) (by decide) (waits_listed hrd (by kernel_rfl))
    replace d4 : a.tmps[33]? = some _ := d4
    have q0 := hI.q0
    have q4 := hI.q4
    refine wpOp_step rfl (fun K hK => ?_)
    go_simp
    refine hK _ _ ?_
    exact hI.put 5 (by decide) (by decide) (by decide) rfl (Keep7.refl _ _ _) (by rw [cnt_ne (by decide) (by decide) (by decide)]; exact hI.wd) rfl
  · have d5 := hI.ps 5 (by decide) (by decide) (by decide) (waits_listed hrd (by kernel_rfl))
    replace d5 : a.tmps[34]? = some _ := d5
    have q0 := hI.q0
    have q4 := hI.q4
    refine wpOp_step rfl (fun K hK => ?_)
    go_simp
    refine hK _ _ ?_
    exact hI.put 6 (by decide) (by decide) (by decide) rfl (Keep7.refl _ _ _) (by rw [cnt_ne (by decide) (by decide) (by decide)]; exact hI.wd) rfl
  · have d6 := hI.ps 6 (by decide) (by decide) (by decide) (waits_listed hrd (by kernel_rfl))
    replace d6 : a.tmps[35]? = some _ := d6
    have q0 := hI.q0
    have q4 := hI.q4
    obtain ⟨⟨s, hs, hc⟩, hf⟩ := hI.wd.cell r 0 hr (by decide)
    rw [Nat.add_zero] at hc hf d6
    refine wpOp_step rfl (fun K hK => ?_)
    go_simp
    refine hK _ _ ?_
    exact hI.put 7 (by decide) (by decide) (by decide) rfl (Keep7.refl _ _ _) (by rw [cnt_ne (by decide) (by decide) (by decide)]; exact hI.wd) ⟨s, hs, rfl⟩
  · have d7 := hI.ps 7 (by decide) (by decide) (by decide) (waits_listed hrd (by kernel_rfl))
    obtain ⟨s7, l7, d7⟩ := d7
    replace d7 : a.tmps[36]? = some _ := d7
    have q0 := hI.q0
    have q4 := hI.q4
    have hz := hI.wd.hg
    have hst := hI.wd.dr.str.lt
    refine wpOp_step rfl (fun K hK => ?_)
    go_simp
    refine hK _ _ ?_
    exact hI.put 8 (by decide) (by decide) (by decide) rfl (fun h cs _ _ hb => hb.alloc _) (by rw [cnt_ne (by decide) (by decide) (by decide)]; exact hI.wd.alloc hB _) ⟨w.heap.size, [⟨#[]⟩, s7, ⟨#[114, 97]⟩], rfl, by omega, by omega, (by intro s hs; simp at hs; rcases hs with rfl | rfl | rfl <;> first | exact l7 | decide), rfl, Blk.new w _ _⟩
  · have d3 := hI.ps 3 (by decide) (by decide) (by decide) (waits_listed hrd (by kernel_rfl))
    replace d3 : a.tmps[32]? = some _ := d3
    have d8 := hI.ps 8 (by decide) (by decide) (by decide) (waits_listed hrd (by kernel_rfl))
    obtain ⟨h8, xs8, d8, n8, m8, l8, z8, b8⟩ := d8
    replace d8 : a.tmps[37]? = some _ := d8
    have q0 := hI.q0
    have q4 := hI.q4
    have hc3 := cnt_le listed
    refine wpOp_step rfl (fun K hK => ?_)
    go_simp
    refine (some_any B (b + cnt7 listed) _ 3 xs8 w (b8.row (by rw [cellsOf_length encS 1 encS_length, z8]) (by decide)) (by decide) (by decide) (by intro k hk; simp [Value.ownBlock] at hk; omega) hI.wd.dr.str (by omega)).mono ?_
    rintro e w1 ⟨s, rfl, hm, hd⟩
    go_simp
    refine hK _ _ ?_
    exact hI.put 9 (by decide) (by decide) (by decide) rfl (fun h cs hn _ hb => hb.drawn hd hn) (by rw [cnt_eq (by decide) hnew]; exact hI.wd.drawn hB hd) ⟨s, l8 s hm, rfl⟩
  · have q0 := hI.q0
    have q4 := hI.q4
    refine wpOp_step rfl (fun K hK => ?_)
    go_simp
    refine hK _ _ ?_
    exact hI.put 10 (by decide) (by decide) (by decide) rfl (Keep7.refl _ _ _) (by rw [cnt_ne (by decide) (by decide) (by decide)]; exact hI.wd) rfl
  · have q0 := hI.q0
    have q4 := hI.q4
    refine wpOp_step rfl (fun K hK => ?_)
    go_simp
    refine hK _ _ ?_
    exact hI.put 11 (by decide) (by decide) (by decide) rfl (Keep7.refl _ _ _) (by rw [cnt_ne (by decide) (by decide) (by decide)]; exact hI.wd) rfl
  · have d11 := hI.ps 11 (by decide) (by decide) (by decide) (waits_listed hrd (by kernel_rfl))
    replace d11 : a.tmps[40]? = some _ := d11
    have q0 := hI.q0
    have q4 := hI.q4
    refine wpOp_step rfl (fun K hK => ?_)
    go_simp
    refine hK _ _ ?_
    exact hI.put 12 (by decide) (by decide) (by decide) rfl (Keep7.refl _ _ _) (by rw [cnt_ne (by decide) (by decide) (by decide)]; exact hI.wd) rfl
  · have d12 := hI.ps 12 (by decide) (by decide) (by decide) (waits_listed hrd (by kernel_rfl))
    replace d12 : a.tmps[41]? = some _ := d12
    have q0 := hI.q0
    have q4 := hI.q4
    refine wpOp_step rfl (fun K hK => ?_)
    go_simp
    refine hK _ _ ?_
    exact hI.put 13 (by decide) (by decide) (by decide) rfl (Keep7.refl _ _ _) (by rw [cnt_ne (by decide) (by decide) (by decide)]; exact hI.wd) rfl
  · have d13 := hI.ps 13 (by decide) (by decide) (by decide) (waits_listed hrd (by kernel_rfl))
    replace d13 : a.tmps[42]? = some _ := d13
    have q0 := hI.q0
    have q4 := hI.q4
    obtain ⟨⟨s, hs, hc⟩, hf⟩ := hI.wd.cell r 1 hr (by decide)
    refine wpOp_step rfl (fun K hK => ?_)
    go_simp
    refine hK _ _ ?_
    exact hI.put 14 (by decide) (by decide) (by decide) rfl (Keep7.refl _ _ _) (by rw [cnt_ne (by decide) (by decide) (by decide)]; exact hI.wd) ⟨s, hs, rfl⟩
  · have d14 := hI.ps 14 (by decide) (by decide) (by decide) (waits_listed hrd (by kernel_rfl))
    obtain ⟨s14, l14, d14⟩ := d14
    replace d14 : a.tmps[43]? = some _ := d14
    have q0 := hI.q0
    have q4 := hI.q4
    have hz := hI.wd.hg
    have hst := hI.wd.dr.str.lt
    refine wpOp_step rfl (fun K hK => ?_)
    go_simp
    refine hK _ _ ?_
    exact hI.put 15 (by decide) (by decide) (by decide) rfl (fun h cs _ _ hb => hb.alloc _) (by rw [cnt_ne (by decide) (by decide) (by decide)]; exact hI.wd.alloc hB _) ⟨w.heap.size, [s14, ⟨#[]⟩], rfl, by omega, by omega, (by intro s hs; simp at hs; rcases hs with rfl | rfl <;> first | exact l14 | decide), rfl, Blk.new w _ _⟩
  · have d10 := hI.ps 10 (by decide) (by decide) (by decide) (waits_listed hrd (by kernel_rfl))
    replace d10 : a.tmps[39]? = some _ := d10
    have d15 := hI.ps 15 (by decide) (by decide) (by decide) (waits_listed hrd (by kernel_rfl))
    obtain ⟨h15, xs15, d15, n15, m15, l15, z15, b15⟩ := d15
    replace d15 : a.tmps[44]? = some _ := d15
    have q0 := hI.q0
    have q4 := hI.q4
    have hc3 := cnt_le listed
    refine wpOp_step rfl (fun K hK => ?_)
    go_simp
    refine (some_any B (b + cnt7 listed) _ 2 xs15 w (b15.row (by rw [cellsOf_length encS 1 encS_length, z15]) (by decide)) (by decide) (by decide) (by intro k hk; simp [Value.ownBlock] at hk; omega) hI.wd.dr.str (by omega)).mono ?_
    rintro e w1 ⟨s, rfl, hm, hd⟩
    go_simp
    refine hK _ _ ?_
    exact hI.put 16 (by decide) (by decide) (by decide) rfl (fun h cs hn _ hb => hb.drawn hd hn) (by rw [cnt_eq (by decide) hnew]; exact hI.wd.drawn hB hd) ⟨s, l15 s hm, rfl⟩
  · have q0 := hI.q0
    have q4 := hI.q4
    refine wpOp_step rfl (fun K hK => ?_)
    go_simp
    refine hK _ _ ?_
    exact hI.put 17 (by decide) (by decide) (by decide) rfl (Keep7.refl _ _ _) (by rw [cnt_ne (by decide) (by decide) (by decide)]; exact hI.wd) rfl
  · have q0 := hI.q0
    have q4 := hI.q4
    have hz := hI.wd.hg
    have hst := hI.wd.dr.str.lt
    refine wpOp_step rfl (fun K hK => ?_)
    go_simp
    refine hK _ _ ?_
    exact hI.put 18 (by decide) (by decide) (by decide) rfl (fun h cs _ _ hb => hb.alloc _) (by rw [cnt_ne (by decide) (by decide) (by decide)]; exact hI.wd.alloc hB _) ⟨w.heap.size, [⟨#[]⟩, ⟨#[65]⟩], rfl, by omega, by omega, (by intro s hs; simp at hs; rcases hs with rfl | rfl <;> decide), rfl, Blk.new w _ _⟩
  · have d17 := hI.ps 17 (by decide) (by decide) (by decide) (waits_listed hrd (by kernel_rfl))
    replace d17 : a.tmps[46]? = some _ := d17
    have d18 := hI.ps 18 (by decide) (by decide) (by decide) (waits_listed hrd (by kernel_rfl))
    obtain ⟨h18, xs18, d18, n18, m18, l18, z18, b18⟩ := d18
    replace d18 : a.tmps[47]? = some _ := d18
    have q0 := hI.q0
    have q4 := hI.q4
    have hc3 := cnt_le listed
    refine wpOp_step rfl (fun K hK => ?_)
    go_simp
    refine (some_any B (b + cnt7 listed) _ 2 xs18 w (b18.row (by rw [cellsOf_length encS 1 encS_length, z18]) (by decide)) (by decide) (by decide) (by intro k hk; simp [Value.ownBlock] at hk; omega) hI.wd.dr.str (by omega)).mono ?_
    rintro e w1 ⟨s, rfl, hm, hd⟩
    go_simp
    refine hK _ _ ?_
    exact hI.put 19 (by decide) (by decide) (by decide) rfl (fun h cs hn _ hb => hb.drawn hd hn) (by rw [cnt_eq (by decide) hnew]; exact hI.wd.drawn hB hd) ⟨s, l18 s hm, rfl⟩
  · have d0 := hI.ps 0 (by decide) (by decide) (by decide) (waits_listed hrd (by kernel_rfl))
    replace d0 : a.tmps[29]? = some _ := d0
    have q0 := hI.q0
    have q4 := hI.q4
    refine wpOp_step rfl (fun K hK => ?_)
    go_simp
    refine hK _ _ ?_
    exact hI.put 20 (by decide) (by decide) (by decide) rfl (Keep7.refl _ _ _) (by rw [cnt_ne (by decide) (by decide) (by decide)]; exact hI.wd) rfl
  · have d20 := hI.ps 20 (by decide) (by decide) (by decide) (waits_listed hrd (by kernel_rfl))
    replace d20 : a.tmps[49]? = some _ := d20
    have q0 := hI.q0
    have q4 := hI.q4
    refine wpOp_step rfl (fun K hK => ?_)
    go_simp
    refine hK _ _ ?_
    exact hI.put 21 (by decide) (by decide) (by decide) rfl (Keep7.refl _ _ _) (by rw [cnt_ne (by decide) (by decide) (by decide)]; exact hI.wd) rfl
  · have d21 := hI.ps 21 (by decide) (by decide) (by decide) (waits_listed hrd (by kernel_rfl))
    replace d21 : a.tmps[50]? = some _ := d21
    have d9 := hI.ps 9 (by decide) (by decide) (by decide) (waits_listed hrd (by kernel_rfl))
    obtain ⟨s9, l9, d9⟩ := d9
    replace d9 : a.tmps[38]? = some _ := d9
    have q0 := hI.q0
    have q4 := hI.q4
    obtain ⟨⟨s, hs, hc⟩, hf⟩ := hI.wd.cell r 0 hr (by decide)
    rw [Nat.add_zero] at hc hf d21
    refine wpOp_step rfl (fun K hK => ?_)
    go_simp
    refine hK _ _ ?_
    exact hI.stored 22 (by decide) (fun h cs _ hn hb => hb.other _ (Ne.symm hn)) (hI.wd.store hBg' (by omega) r 0 hr (by decide) _ l9)
  · have d1 := hI.ps 1 (by decide) (by decide) (by decide) (waits_listed hrd (by kernel_rfl))
    replace d1 : a.tmps[30]? = some _ := d1
    have q0 := hI.q0
    have q4 := hI.q4
    refine wpOp_step rfl (fun K hK => ?_)
    go_simp
    refine hK _ _ ?_
    exact hI.put 23 (by decide) (by decide) (by decide) rfl (Keep7.refl _ _ _) (by rw [cnt_ne (by decide) (by decide) (by decide)]; exact hI.wd) rfl
  · have d23 := hI.ps 23 (by decide) (by decide) (by decide) (waits_listed hrd (by kernel_rfl))
    replace d23 : a.tmps[51]? = some _ := d23
    have q0 := hI.q0
    have q4 := hI.q4
    refine wpOp_step rfl (fun K hK => ?_)
    go_simp
    refine hK _ _ ?_
    exact hI.put 24 (by decide) (by decide) (by decide) rfl (Keep7.refl _ _ _) (by rw [cnt_ne (by decide) (by decide) (by decide)]; exact hI.wd) rfl
  · have d24 := hI.ps 24 (by decide) (by decide) (by decide) (waits_listed hrd (by kernel_rfl))
    replace d24 : a.tmps[52]? = some _ := d24
    have d16 := hI.ps 16 (by decide) (by decide) (by decide) (waits_listed hrd (by kernel_rfl))
    obtain ⟨s16, l16, d16⟩ := d16
    replace d16 : a.tmps[45]? = some _ := d16
    have q0 := hI.q0
    have q4 := hI.q4
    obtain ⟨⟨s, hs, hc⟩, hf⟩ := hI.wd.cell r 1 hr (by decide)
    refine wpOp_step rfl (fun K hK => ?_)
    go_simp
    refine hK _ _ ?_
    exact hI.stored 25 (by decide) (fun h cs _ hn hb => hb.other _ (Ne.symm hn)) (hI.wd.store hBg' (by omega) r 1 hr (by decide) _ l16)
  · have d2 := hI.ps 2 (by decide) (by decide) (by decide) (waits_listed hrd (by kernel_rfl))
    replace d2 : a.tmps[31]? = some _ := d2
    have q0 := hI.q0
    have q4 := hI.q4
    refine wpOp_step rfl (fun K hK => ?_)
    go_simp
    refine hK _ _ ?_
    exact hI.put 26 (by decide) (by decide) (by decide) rfl (Keep7.refl _ _ _) (by rw [cnt_ne (by decide) (by decide) (by decide)]; exact hI.wd) rfl
  · have d26 := hI.ps 26 (by decide) (by decide) (by decide) (waits_listed hrd (by kernel_rfl))
    replace d26 : a.tmps[53]? = some _ := d26
    have q0 := hI.q0
    have q4 := hI.q4
    refine wpOp_step rfl (fun K hK => ?_)
    go_simp
    refine hK _ _ ?_
    exact hI.put 27 (by decide) (by decide) (by decide) rfl (Keep7.refl _ _ _) (by rw [cnt_ne (by decide) (by decide) (by decide)]; exact hI.wd) rfl
  · have d27 := hI.ps 27 (by decide) (by decide) (by decide) (waits_listed hrd (by kernel_rfl))
    replace d27 : a.tmps[54]? = some _ := d27
    have d19 := hI.ps 19 (by decide) (by decide) (by decide) (waits_listed hrd (by kernel_rfl))
    obtain ⟨s19, l19, d19⟩ := d19
    replace d19 : a.tmps[48]? = some _ := d19
    have q0 := hI.q0
    have q4 := hI.q4
    obtain ⟨⟨s, hs, hc⟩, hf⟩ := hI.wd.cell r 2 hr (by decide)
    refine wpOp_step rfl (fun K hK => ?_)
    go_simp
    refine hK _ _ ?_
    exact hI.stored 28 (by decide) (fun h cs _ hn hb => hb.other _ (Ne.symm hn)) (hI.wd.store hBg' (by omega) r 2 hr (by decide) _ l19)
end Go.Proofs.YtbidnbcclibigaaDoor
