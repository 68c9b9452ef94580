/-
  Contracts and lemmas towards the statement, of several parts; each part says ahead of it what it holds and under which conditions.
-/
import Derived.Test.YtnmdpphddimfbaaMg8
/-
  What a rule gives: the program's and the reference's reckoning. Conditions: the rule and the line are right.
-/
set_option linter.unusedVariables false
namespace Go.Bw
open Go.RowKit
/-- The cells of block g read cs from its head on. -/
def CellsAt (w : World) (g : Nat) (cs : List Value) : Prop := g < w.heap.size ∧ ∀ j u, cs[j]? = some u → w.cell? ⟨g, j, none⟩ = some u
theorem CellsAt.below {w w' : World} {g : Nat} {cs : List Value} (h : CellsAt w g cs) (b : Below w.heap.size w w') : CellsAt w' g cs :=
  ⟨Nat.lt_of_lt_of_le h.1 b.size, fun j u hu => (b.cell (p := ⟨g, j, none⟩) h.1).trans (h.2 j u hu)⟩
theorem CellsAt.new (w : World) (cs : Array Value) (e : TypeId) : CellsAt (w.alloc (.cells cs e)) w.heap.size cs.toList := ⟨by simp, fun j u h => cells_new w cs e j u h⟩
def cntTo (l : List StatL) (nm : ByteArray) (k : Int) : Int := (l.take k.toNat).foldl (fun n t => if t.name = nm then t.count else n) 0
theorem cntTo_zero (l : List StatL) (nm : ByteArray) : cntTo l nm 0 = 0 := rfl
theorem cntTo_succ (l : List StatL) (nm : ByteArray) (k : Int) (h0 : 0 ≤ k) (h1 : k < l.length) : cntTo l nm (k + 1) = if (geta l k).name = nm then (geta l k).count else cntTo l nm k := by
  unfold cntTo
  rw [show (k + 1).toNat = k.toNat + 1 by omega, List.take_succ_eq_append_getElem (by omega), List.foldl_append, geta_eq l k h0 h1]
  rfl
theorem cntTo_le (l : List StatL) (nm : ByteArray) (hc : ∀ t ∈ l, -100000 ≤ t.count ∧ t.count ≤ 100000) (k : Int) (h0 : 0 ≤ k) (h1 : k ≤ l.length) : -100000 ≤ cntTo l nm k ∧ cntTo l nm k ≤ 100000 := by
  obtain ⟨m, rfl⟩ := Int.eq_ofNat_of_zero_le h0
  induction m with
  | zero => have := cntTo_zero l nm; simp at this ⊢; rw [this]; omega
  | succ m ih =>
    have hs := cntTo_succ l nm m (by omega) (by omega)
    rw [show ((m + 1 : Nat) : Int) = (m : Int) + 1 by omega, hs]
    split
    · exact hc _ (geta_mem (by omega) (by omega))
    · exact ih (by omega) (by omega)
end Go.Bw
namespace Go.Proofs.Ytnmdpphddimfbaa
open Go.RowKit Go.Bw
/-- A rule that is right. -/
structure RuleGood (r : RuleL) : Prop where
  k0 : 1 ≤ r.kind
  k1 : r.kind ≤ 4
  m : (r.kind = 2 ∨ r.kind = 3) → 1 ≤ r.many ∧ r.many ≤ 100000
  d0 : 1 ≤ r.den
  d1 : r.den ≤ 100
  n0 : -1000000 ≤ r.num
  n1 : r.num ≤ 1000000
  h0 : -1000000 ≤ hund r.num r.den
  h1 : hund r.num r.den ≤ 1000000
theorem hund_le {num den : Int} (h0 : 1 ≤ den) (h : den ≤ 100) (h1 : -10000 * den ≤ num) (h2 : num ≤ 10000 * den) : -1000000 ≤ hund num den ∧ hund num den ≤ 1000000 := by
  unfold hund
  have hq0 : 0 ≤ 100 / den := Int.ediv_nonneg (by decide) (by omega)
  have hq : den * (100 / den) ≤ 100 := Int.mul_ediv_self_le (by omega)
  have a := Int.mul_le_mul_of_nonneg_right h1 hq0
  have b := Int.mul_le_mul_of_nonneg_right h2 hq0
  rw [Int.mul_assoc] at a b
  omega
theorem rule_good {l : List RuleL} (hz : ∀ r ∈ l, RuleOk r) (h : rulesE l = 0) : ∀ r ∈ l, RuleGood r := by
  intro r hr
  obtain ⟨i, hi, rfl⟩ := List.getElem_of_mem hr
  have h100 : ¬ 100 < l.length := by
    intro h100
    unfold rulesE at h
    rw [if_pos h100] at h
    cases h
  have hat : ruleAt l i = 0 := by
    unfold rulesE at h
    rw [if_neg h100] at h
    exact firstErr_zero h i (by omega) (by omega)
  have hg : geta l i = l[i] := geta_eq l i (by omega) (by omega)
  unfold ruleAt at hat
  rw [hg] at hat
  have e1 : kindB l[i] = false := by
    cases hk : kindB l[i]
    · rfl
    · rw [hk] at hat
      split at hat <;> (try split at hat) <;> simp_all
  have e2 : manyBad l[i] = false := by
    cases hk : manyBad l[i]
    · rfl
    · rw [hk] at hat
      split at hat <;> (try split at hat) <;> (try split at hat) <;> simp_all
  have e3 : amountE l[i].num l[i].den 10000 = 0 := by
    rw [e1, e2] at hat
    split at hat <;> (try split at hat) <;> simp_all
  have hk := out_no e1
  unfold amountE at e3
  have a1 : ¬ (l[i].den < 1 ∨ Int.gcd l[i].num l[i].den ≠ 1) := by
    intro h; rw [if_pos h] at e3; cases e3
  rw [if_neg a1] at e3
  have a2 : ¬ (100 % l[i].den ≠ 0 ∨ l[i].num < -10000 * l[i].den ∨ 10000 * l[i].den < l[i].num) := by
    intro h; rw [if_pos h] at e3; cases e3
  have hd1 : 1 ≤ l[i].den := by omega
  have hd0 : 100 % l[i].den = 0 := by omega
  have hd2 := den_le hd1 hd0
  have hh := hund_le (num := l[i].num) hd1 hd2 (by omega) (by omega)
  refine ⟨hk.1, hk.2, fun hm => ?_, hd1, hd2, by omega, by omega, hh.1, hh.2⟩
  have hm2 : many2 l[i] = true := by
    unfold many2
    rcases hm with hm | hm <;> simp [hm]
  unfold manyBad at e2
  rw [if_pos hm2] at e2
  exact out_no e2

def posBad (r : RuleL) (ps : List ByteArray) : Bool := decide (r.pos.size ≠ 0) && !hasS ps r.pos
def cnt (ts : List StatL) (nm : ByteArray) : Int := cntTo ts nm ts.length
theorem mul_b (h t : Int) (h0 : -1000000 ≤ h) (h1 : h ≤ 1000000) (t0 : -100000 ≤ t) (t1 : t ≤ 100000) : -100000000000 ≤ h * t ∧ h * t ≤ 100000000000 := by
  have a : (h * t).natAbs = h.natAbs * t.natAbs := Int.natAbs_mul h t
  have b : h.natAbs * t.natAbs ≤ 1000000 * 100000 := Nat.mul_le_mul (by omega) (by omega)
  omega
def timesV (r : RuleL) (n : Int) : Int := if r.kind = 1 then n else if r.kind = 2 then max n 0 / r.many else if r.kind = 3 then (if r.many ≤ n then 1 else 0) else if n = 0 then 1 else 0
theorem times_le (r : RuleL) (n : Int) (hm : (r.kind = 2 ∨ r.kind = 3) → 1 ≤ r.many ∧ r.many ≤ 100000) (h0 : -100000 ≤ n) (h1 : n ≤ 100000) : -100000 ≤ timesV r n ∧ timesV r n ≤ 100000 := by
  unfold timesV
  split
  · omega
  · split
    · rename_i h2
      have := hm (.inl h2)
      have a : 0 ≤ max n 0 / r.many := Int.ediv_nonneg (by omega) (by omega)
      have b : max n 0 / r.many ≤ max n 0 := Int.ediv_le_self _ (by omega)
      omega
    · split
      · split <;> omega
      · split <;> omega
def givesV (r : RuleL) (ps : List ByteArray) (ts : List StatL) : Int := if posBad r ps = true then 0 else hund r.num r.den * timesV r (cnt ts r.stat)

/-- What a call sees. -/
structure Gw (w0 : World) (r : RuleL) (pl : ByteArray) (wk : Int) (vt vp : Value) (ts : List StatL) (ps : List ByteArray) (g3 g5 : Nat) (w : World) : Prop where
  bel : Below w0.heap.size w0 w
  rc : CellsAt w g3 (encR r)
  lc : CellsAt w g5 [.string pl, .int .i64 wk, vt]
  tr : Row w 0 2 vt ts.length (cellsOf encT ts)
  pr : Row w 0 1 vp ps.length (cellsOf encSt ps)
theorem Gw.below {w0 w w' : World} {r : RuleL} {pl : ByteArray} {wk : Int} {vt vp : Value} {ts : List StatL} {ps : List ByteArray} {g3 g5 : Nat} (h : Gw w0 r pl wk vt vp ts ps g3 g5 w) (b : Below w.heap.size w w') : Gw w0 r pl wk vt vp ts ps g3 g5 w' :=
  ⟨h.bel.trans (b.mono h.bel.size), h.rc.below b, h.lc.below b, h.tr.below b, h.pr.below b⟩
noncomputable def givesP : Code := (Try.f88.body).getD .skip
set_option maxRecDepth 100000 in
theorem frame76 (f : Nat → Value) : frame 76 f = ⟨#[f 0, f 1, f 2, f 3, f 4, f 5, f 6, f 7, f 8, f 9, f 10, f 11, f 12, f 13, f 14, f 15, f 16, f 17, f 18, f 19, f 20, f 21, f 22, f 23, f 24, f 25, f 26, f 27, f 28, f 29, f 30, f 31, f 32, f 33, f 34, f 35, f 36, f 37, f 38, f 39, f 40, f 41, f 42, f 43, f 44, f 45, f 46, f 47, f 48, f 49, f 50, f 51, f 52, f 53, f 54, f 55, f 56, f 57, f 58, f 59, f 60, f 61, f 62, f 63, f 64, f 65, f 66, f 67, f 68, f 69, f 70, f 71, f 72, f 73, f 74, f 75], []⟩ := by rfl
set_option maxRecDepth 100000 in
set_option maxHeartbeats 1000000 in
theorem gp_pos (w0 : World) (r : RuleL) (pl : ByteArray) (wk : Int) (vt vp : Value) (ts : List StatL) (ps : List ByteArray) (g3 g5 : Nat) (hr : RuleGood r) (hc : ∀ t ∈ ts, -100000 ≤ t.count ∧ t.count ≤ 100000) : T3 Try.prog (fun a w => True ∧ Gw w0 r pl wk vt vp ts ps g3 g5 w ∧ Fr 76 [(1, vp), (3, .pointer (some ⟨g3, 0, none⟩)), (5, .pointer (some ⟨g5, 0, none⟩))] a) (sel [1, 0, 0] givesP)
    (fun a w => ∃ q, Fr 76 ((21, .bool q) :: [(1, vp), (3, .pointer (some ⟨g3, 0, none⟩)), (5, .pointer (some ⟨g5, 0, none⟩))]) a ∧ ((q = posBad r ps) ∧ Gw w0 r pl wk vt vp ts ps g3 g5 w)) No 9
    (fun a w => Fr 76 [(6, .int .i64 (givesV r ps ts))] a ∧ Below w0.heap.size w0 w) := by
  refine T3.leaf ?_
  rintro Q JS JX JT K hS hK hX hE hT hR a w ⟨hC, hM, ⟨f, rfl, q1, q3, q5, _⟩⟩
  have HC := Lib.hid hC
  clear hC
  rw [frame76, show f 1 = vp from q1, show f 3 = .pointer (some ⟨g3, 0, none⟩) from q3, show f 5 = .pointer (some ⟨g5, 0, none⟩) from q5]
  clear q1 q3 q5
  conv => arg 2; whnf
  have c2 := hM.rc.2 2 _ rfl
  have Hp := Lib.hid (show posBad r ps = (decide (r.pos.size ≠ 0) && !hasS ps r.pos) from rfl)
  generalize r.pos = s2 at *
  by_cases h2 : s2.size = 0
  · have Hq := Lib.hid (show false = posBad r ps by rw [Hp.out]; simp [h2])
    have e2 := str_empty h2
    clear h2
    go_wp2_with fail
    refine Met.intro (hS _ _ ?_)
    exact ⟨false, Fr.of _ rfl ⟨rfl, rfl, rfl, rfl, trivial⟩, Hq.out, hM⟩
  · have e2 := str_full h2
    have e3 : (!s2.toList.isEmpty) = true := by rw [e2]; rfl
    have hb := (Below.refl w.heap.size w).alloc (Nat.le_refl _) (.cells #[.string s2] 9)
    have H1 := Lib.hid (common_any vp ps.length ps s2 0 w.heap.size _ (hM.pr.below hb) (cells_new w #[.string s2] 9 0 _ rfl))
    replace hM := hM.below hb
    clear hb
    have Hq := Lib.hid (show (!hasS ps s2) = posBad r ps by rw [Hp.out]; simp [h2])
    clear h2
    go_wp2_with fail
    generalize w.alloc (.cells #[.string s2] 9) = W at *
    refine H1.out.mono ?_
    rintro e w1 ⟨rfl, hb⟩
    replace hM := hM.below hb
    clear hb H1
    generalize hasS ps s2 = q at *
    cases q
    · go_wp2_with fail
      refine Met.intro (hS _ _ ?_)
      exact ⟨true, Fr.of _ rfl ⟨rfl, rfl, rfl, rfl, trivial⟩, Hq.out, hM⟩
    · go_wp2_with fail
      refine Met.intro (hS _ _ ?_)
      exact ⟨false, Fr.of _ rfl ⟨rfl, rfl, rfl, rfl, trivial⟩, Hq.out, hM⟩

set_option maxRecDepth 100000 in
set_option maxHeartbeats 1000000 in
theorem gp_none (w0 : World) (r : RuleL) (pl : ByteArray) (wk : Int) (vt vp : Value) (ts : List StatL) (ps : List ByteArray) (g3 g5 : Nat) (hr : RuleGood r) (hc : ∀ t ∈ ts, -100000 ≤ t.count ∧ t.count ≤ 100000) : T3 Try.prog (fun a w => Fr 76 ((21, .bool true) :: [(1, vp), (3, .pointer (some ⟨g3, 0, none⟩)), (5, .pointer (some ⟨g5, 0, none⟩))]) a ∧ (true = posBad r ps) ∧ Gw w0 r pl wk vt vp ts ps g3 g5 w) (sel [1, 0, 1, 2] givesP) No No 9 (fun a w => Fr 76 [(6, .int .i64 (givesV r ps ts))] a ∧ Below w0.heap.size w0 w) := by
  refine T3.leaf ?_
  rintro Q JS JX JT K hS hK hX hE hT hR a w ⟨⟨f, rfl, q21, q1, q3, q5, _⟩, hC, hM⟩
  have He := Lib.hid (show givesV r ps ts = 0 by unfold givesV; rw [if_pos hC.symm])
  have hb := hM.bel
  clear hC
  rw [frame76, show f 21 = .bool true from q21, show f 1 = vp from q1, show f 3 = .pointer (some ⟨g3, 0, none⟩) from q3, show f 5 = .pointer (some ⟨g5, 0, none⟩) from q5]
  clear q21 q1 q3 q5
  conv => arg 2; whnf
  go_wp2_with fail
  refine Met.intro (hT _ _ ?_)
  exact ⟨Fr.of _ rfl ⟨by rw [He.out]; rfl, trivial⟩, hb⟩

set_option maxRecDepth 100000 in
set_option maxHeartbeats 1000000 in
theorem gp_c0 (w0 : World) (r : RuleL) (pl : ByteArray) (wk : Int) (vt vp : Value) (ts : List StatL) (ps : List ByteArray) (g3 g5 : Nat) (hr : RuleGood r) (hc : ∀ t ∈ ts, -100000 ≤ t.count ∧ t.count ≤ 100000) : T3 Try.prog (fun a w => True ∧ Gw w0 r pl wk vt vp ts ps g3 g5 w ∧ Fr 76 [(1, vp), (3, .pointer (some ⟨g3, 0, none⟩)), (5, .pointer (some ⟨g5, 0, none⟩))] a) (sel [1, 1, 0] givesP)
    (fun a w => True ∧ Gw w0 r pl wk vt vp ts ps g3 g5 w ∧ Fr 76 [(7, .int .i64 0), (1, vp), (3, .pointer (some ⟨g3, 0, none⟩)), (5, .pointer (some ⟨g5, 0, none⟩))] a) No 9
    (fun a w => Fr 76 [(6, .int .i64 (givesV r ps ts))] a ∧ Below w0.heap.size w0 w) := by
  refine T3.leaf ?_
  rintro Q JS JX JT K hS hK hX hE hT hR a w ⟨hC, hM, ⟨f, rfl, q1, q3, q5, _⟩⟩
  have HC := Lib.hid hC
  clear hC
  rw [frame76, show f 1 = vp from q1, show f 3 = .pointer (some ⟨g3, 0, none⟩) from q3, show f 5 = .pointer (some ⟨g5, 0, none⟩) from q5]
  clear q1 q3 q5
  conv => arg 2; whnf
  go_wp2_with fail
  refine Met.intro (hS _ _ ?_)
  exact ⟨trivial, hM, Fr.of _ rfl ⟨rfl, rfl, rfl, rfl, trivial⟩⟩

def gpC (w0 : World) (r : RuleL) (pl : ByteArray) (wk : Int) (vt vp : Value) (ts : List StatL) (ps : List ByteArray) (g3 g5 : Nat) (k : Int) (a : Act) (w : World) : Prop := (0 ≤ k ∧ k ≤ ts.length) ∧ Gw w0 r pl wk vt vp ts ps g3 g5 w ∧ Fr 76 [(23, vt), (24, .int .i64 ts.length), (25, .int .i64 k), (7, .int .i64 (cntTo ts r.stat k)), (1, vp), (3, .pointer (some ⟨g3, 0, none⟩)), (5, .pointer (some ⟨g5, 0, none⟩))] a
set_option maxRecDepth 100000 in
set_option maxHeartbeats 1000000 in
theorem gp_c1 (w0 : World) (r : RuleL) (pl : ByteArray) (wk : Int) (vt vp : Value) (ts : List StatL) (ps : List ByteArray) (g3 g5 : Nat) (hr : RuleGood r) (hc : ∀ t ∈ ts, -100000 ≤ t.count ∧ t.count ≤ 100000) : T3 Try.prog (fun a w => True ∧ Gw w0 r pl wk vt vp ts ps g3 g5 w ∧ Fr 76 [(7, .int .i64 0), (1, vp), (3, .pointer (some ⟨g3, 0, none⟩)), (5, .pointer (some ⟨g5, 0, none⟩))] a) (sel [1, 1, 1, 0, 0] givesP)
    (gpC w0 r pl wk vt vp ts ps g3 g5 0) No 9
    (fun a w => Fr 76 [(6, .int .i64 (givesV r ps ts))] a ∧ Below w0.heap.size w0 w) := by
  refine T3.leaf ?_
  rintro Q JS JX JT K hS hK hX hE hT hR a w ⟨hC, hM, ⟨f, rfl, q7, q1, q3, q5, _⟩⟩
  have HC := Lib.hid hC
  clear hC
  rw [frame76, show f 7 = .int .i64 0 from q7, show f 1 = vp from q1, show f 3 = .pointer (some ⟨g3, 0, none⟩) from q3, show f 5 = .pointer (some ⟨g5, 0, none⟩) from q5]
  clear q7 q1 q3 q5
  conv => arg 2; whnf
  obtain ⟨p, c, hv⟩ := hM.tr.shape
  have c2 := hM.lc.2 2 _ rfl
  rw [hv] at c2
  go_wp2_with fail
  refine Met.intro (hS _ _ ?_)
  exact ⟨⟨by omega, by omega⟩, hM, Fr.of _ rfl ⟨hv.symm, rfl, rfl, rfl, rfl, rfl, rfl, trivial⟩⟩

set_option maxRecDepth 100000 in
set_option maxHeartbeats 1000000 in
theorem gp_cr (w0 : World) (r : RuleL) (pl : ByteArray) (wk : Int) (vt vp : Value) (ts : List StatL) (ps : List ByteArray) (g3 g5 : Nat) (hr : RuleGood r) (hc : ∀ t ∈ ts, -100000 ≤ t.count ∧ t.count ≤ 100000) (n : Nat) : T3 Try.prog (fun a w => ∃ k : Int, (n : Int) = ts.length - k ∧ gpC w0 r pl wk vt vp ts ps g3 g5 k a w) (sel [1, 1, 1, 0, 1, 4, 4] givesP)
    (fun a w => ∃ m, m < n ∧ ∃ k : Int, (m : Int) = ts.length - k ∧ gpC w0 r pl wk vt vp ts ps g3 g5 k a w) (gpC w0 r pl wk vt vp ts ps g3 g5 ts.length) 0
    (fun a w => Fr 76 [(6, .int .i64 (givesV r ps ts))] a ∧ Below w0.heap.size w0 w) := by
  refine T3.leaf ?_
  rintro Q JS JX JT K hS hK hX hE hT hR a w ⟨k, hn, ⟨hk0, hk1⟩, hM, ⟨f, rfl, q23, q24, q25, q7, q1, q3, q5, _⟩⟩
  rw [frame76, show f 23 = vt from q23, show f 24 = .int .i64 ts.length from q24, show f 25 = .int .i64 k from q25, show f 7 = .int .i64 (cntTo ts r.stat k) from q7, show f 1 = vp from q1, show f 3 = .pointer (some ⟨g3, 0, none⟩) from q3, show f 5 = .pointer (some ⟨g5, 0, none⟩) from q5]
  clear q23 q24 q25 q7 q1 q3 q5
  conv => arg 2; whnf
  have HS := Lib.hid hS
  have HX := Lib.hid hX
  clear hS hX
  by_cases hlt : k < ts.length
  · obtain ⟨_, hcs⟩ := hM.tr.els encT_length (by decide)
    rcases hcs with ⟨_, h0⟩ | ⟨b, off, cap, hv, _, hbs, hnc, hcm, hcell⟩
    · omega
    have t0 := hcell k hk0 hlt 0 _ rfl
    have t1 := hcell k hk0 hlt 1 _ rfl
    rw [Nat.add_zero] at t0
    have Hs := Lib.hid (cntTo_succ ts r.stat k hk0 hlt)
    have Hv := Lib.hid hv
    rw [hv]
    have hb := (Below.refl w.heap.size w).alloc (Nat.le_refl _) (.cells (encT (geta ts k)).toArray 89)
    replace hM := hM.below hb
    have c1 := hM.rc.2 1 _ rfl
    clear hv hcell hb
    unfold encT at hM c1
    generalize (geta ts k).name = s1 at *
    generalize (geta ts k).count = n1 at *
    generalize hs2 : r.stat = s2 at *
    have Hse := Lib.hid hs2
    clear hs2
    go_upto_region 7 with fail
    have d0 := cells_new w #[.string s1, .int .i64 n1] 89 0 _ rfl
    have d1 := cells_new w #[.string s1, .int .i64 n1] 89 1 _ rfl
    change Gw _ _ _ _ _ _ _ _ _ _ (w.alloc (.cells #[.string s1, .int .i64 n1] 89)) at hM
    change (w.alloc (.cells #[.string s1, .int .i64 n1] 89)).cell? _ = _ at c1
    generalize w.alloc (.cells #[.string s1, .int .i64 n1] 89) = W at *
    generalize w.heap.size = g at *
    clear t0 t1
    generalize cntTo ts s2 k = m at *
    by_cases hq : s1 = s2
    · subst hq
      have Hs2 := Lib.hid (show cntTo ts s1 (k + 1) = n1 by rw [Hs.out, if_pos rfl])
      clear Hs
      go_wp2_with fail
      refine Met.intro (HS.out _ _ ?_)
      exact ⟨n - 1, by omega, k + 1, by omega, ⟨by omega, by omega⟩, hM, Fr.of _ rfl ⟨Hv.out.symm, rfl, rfl, by rw [Hse.out, Hs2.out]; rfl, rfl, rfl, rfl, trivial⟩⟩
    · have hqb := toList_ne hq
      have Hs2 := Lib.hid (show cntTo ts s2 (k + 1) = m by rw [Hs.out, if_neg hq])
      clear Hs
      go_wp2_with fail
      refine Met.intro (HS.out _ _ ?_)
      exact ⟨n - 1, by omega, k + 1, by omega, ⟨by omega, by omega⟩, hM, Fr.of _ rfl ⟨Hv.out.symm, rfl, rfl, by rw [Hse.out, Hs2.out]; rfl, rfl, rfl, rfl, trivial⟩⟩
  · have hk : k = ts.length := by omega
    subst hk
    go_wp2_with fail
    refine hE _ _ (Met.intro (HX.out _ _ ?_))
    exact ⟨⟨hk0, hk1⟩, hM, Fr.of _ rfl ⟨rfl, rfl, rfl, rfl, rfl, rfl, rfl, trivial⟩⟩

set_option maxRecDepth 100000 in
set_option maxHeartbeats 1000000 in
theorem gp_cnt (w0 : World) (r : RuleL) (pl : ByteArray) (wk : Int) (vt vp : Value) (ts : List StatL) (ps : List ByteArray) (g3 g5 : Nat) (hr : RuleGood r) (hc : ∀ t ∈ ts, -100000 ≤ t.count ∧ t.count ≤ 100000) : T3 Try.prog (gpC w0 r pl wk vt vp ts ps g3 g5 0) (sel [1, 1, 1, 0, 1] givesP) (gpC w0 r pl wk vt vp ts ps g3 g5 ts.length) No 9 (fun a w => Fr 76 [(6, .int .i64 (givesV r ps ts))] a ∧ Below w0.heap.size w0 w) := by
  refine T3.loop (c := (sel [1, 1, 1, 0, 1, 4, 4] givesP)) (fun n a w => ∃ k : Int, (n : Int) = ts.length - k ∧ gpC w0 r pl wk vt vp ts ps g3 g5 k a w) (fun a w h => ⟨ts.length, 0, by omega, h⟩) (fun n => gp_cr w0 r pl wk vt vp ts ps g3 g5 hr hc n)

set_option maxRecDepth 100000 in
set_option maxHeartbeats 1000000 in
theorem gp_worth (w0 : World) (r : RuleL) (pl : ByteArray) (wk : Int) (vt vp : Value) (ts : List StatL) (ps : List ByteArray) (g3 g5 : Nat) (hr : RuleGood r) (hc : ∀ t ∈ ts, -100000 ≤ t.count ∧ t.count ≤ 100000) : T3 Try.prog (fun a w => True ∧ Gw w0 r pl wk vt vp ts ps g3 g5 w ∧ Fr 76 [(7, .int .i64 (cnt ts r.stat)), (1, vp), (3, .pointer (some ⟨g3, 0, none⟩)), (5, .pointer (some ⟨g5, 0, none⟩))] a) (sel [1, 1, 1, 1, 0] givesP)
    (fun a w => True ∧ Gw w0 r pl wk vt vp ts ps g3 g5 w ∧ Fr 76 [(10, .int .i64 (hund r.num r.den)), (7, .int .i64 (cnt ts r.stat)), (1, vp), (3, .pointer (some ⟨g3, 0, none⟩)), (5, .pointer (some ⟨g5, 0, none⟩))] a) No 9
    (fun a w => Fr 76 [(6, .int .i64 (givesV r ps ts))] a ∧ Below w0.heap.size w0 w) := by
  refine T3.leaf ?_
  rintro Q JS JX JT K hS hK hX hE hT hR a w ⟨hC, hM, ⟨f, rfl, q7, q1, q3, q5, _⟩⟩
  have HC := Lib.hid hC
  clear hC
  rw [frame76, show f 7 = .int .i64 (cnt ts r.stat) from q7, show f 1 = vp from q1, show f 3 = .pointer (some ⟨g3, 0, none⟩) from q3, show f 5 = .pointer (some ⟨g5, 0, none⟩) from q5]
  clear q7 q1 q3 q5
  conv => arg 2; whnf
  have hn0 := hr.n0
  have hn1 := hr.n1
  have hd0 := hr.d0
  have hd1 := hr.d1
  have c5 := hM.rc.2 5 _ rfl
  have c6 := hM.rc.2 6 _ rfl
  generalize cnt ts r.stat = m at *
  generalize r.num = n1 at *
  generalize r.den = n2 at *
  go_wp2_with (go_at_call 95; refine (hundredths_prog n1 n2 _ (by omega) (by omega) hd0 (by omega)).mono ?_; rintro e w1 ⟨rfl, hb⟩; replace hM := hM.below hb; clear hb)
  refine Met.intro (hS _ _ ?_)
  exact ⟨trivial, hM, Fr.of _ rfl ⟨rfl, rfl, rfl, rfl, rfl, trivial⟩⟩

set_option maxRecDepth 100000 in
set_option maxHeartbeats 1000000 in
theorem gp_sw (w0 : World) (r : RuleL) (pl : ByteArray) (wk : Int) (vt vp : Value) (ts : List StatL) (ps : List ByteArray) (g3 g5 : Nat) (hr : RuleGood r) (hc : ∀ t ∈ ts, -100000 ≤ t.count ∧ t.count ≤ 100000) (hp : posBad r ps = false) : T3 Try.prog (fun a w => True ∧ Gw w0 r pl wk vt vp ts ps g3 g5 w ∧ Fr 76 [(10, .int .i64 (hund r.num r.den)), (7, .int .i64 (cnt ts r.stat)), (1, vp), (3, .pointer (some ⟨g3, 0, none⟩)), (5, .pointer (some ⟨g5, 0, none⟩))] a) (sel [1, 1, 1, 1, 1] givesP) No No 9 (fun a w => Fr 76 [(6, .int .i64 (givesV r ps ts))] a ∧ Below w0.heap.size w0 w) := by
  refine T3.leaf ?_
  rintro Q JS JX JT K hS hK hX hE hT hR a w ⟨hC, hM, ⟨f, rfl, q10, q7, q1, q3, q5, _⟩⟩
  have Hv := Lib.hid (show givesV r ps ts = hund r.num r.den * timesV r (cnt ts r.stat) by unfold givesV; rw [if_neg (by rw [hp]; decide)])
  have hcb := cntTo_le ts r.stat hc ts.length (by omega) (by omega)
  change -100000 ≤ cnt ts r.stat ∧ cnt ts r.stat ≤ 100000 at hcb
  have hb := hM.bel
  have hk0 := hr.k0
  have hk1 := hr.k1
  have hm := hr.m
  have hh0 := hr.h0
  have hh1 := hr.h1
  have c3 := hM.rc.2 3 _ rfl
  have c4 := hM.rc.2 4 _ rfl
  rw [frame76, show f 10 = .int .i64 (hund r.num r.den) from q10, show f 7 = .int .i64 (cnt ts r.stat) from q7, show f 1 = vp from q1, show f 3 = .pointer (some ⟨g3, 0, none⟩) from q3, show f 5 = .pointer (some ⟨g5, 0, none⟩) from q5]
  clear q10 q7 q1 q3 q5
  conv => arg 2; whnf
  generalize hund r.num r.den = h at *
  generalize cnt ts r.stat = m at *
  have Ht := Lib.hid (show timesV r m = if r.kind = 1 then m else if r.kind = 2 then max m 0 / r.many else if r.kind = 3 then (if r.many ≤ m then 1 else 0) else if m = 0 then 1 else 0 from rfl)
  generalize r.kind = kd at *
  generalize r.many = mn at *
  have hkd : kd = 1 ∨ kd = 2 ∨ kd = 3 ∨ kd = 4 := by omega
  clear hp hk0 hk1
  rcases hkd with rfl | rfl | rfl | rfl
  · have HE := Lib.hid (show givesV r ps ts = h * m by rw [Hv.out, Ht.out, if_pos rfl])
    have hbb := mul_b h m hh0 hh1 hcb.1 hcb.2
    clear hm
    go_wp2_with fail
    refine Met.intro (hT _ _ ?_)
    exact ⟨Fr.of _ rfl ⟨by rw [HE.out]; rfl, trivial⟩, hb⟩
  · have hm := hm (.inl rfl)
    have HE := Lib.hid (show givesV r ps ts = h * (max m 0 / mn) by rw [Hv.out, Ht.out, if_neg (by decide), if_pos rfl])
    have hq0 : 0 ≤ max m 0 / mn := Int.ediv_nonneg (by omega) (by omega)
    have hq1 : max m 0 / mn ≤ max m 0 := Int.ediv_le_self _ (by omega)
    have hbb := mul_b h (max m 0 / mn) hh0 hh1 (by omega) (by omega)
    have hmz : (mn == 0) = false := by simp; omega
    go_wp2_with fail
    refine Met.intro (hT _ _ ?_)
    exact ⟨Fr.of _ rfl ⟨by rw [HE.out]; rfl, trivial⟩, hb⟩
  · have hm := hm (.inr rfl)
    by_cases hge : mn ≤ m
    · have HE := Lib.hid (show givesV r ps ts = h by rw [Hv.out, Ht.out, if_neg (by decide), if_neg (by decide), if_pos rfl, if_pos hge, Int.mul_one])
      go_wp2_with fail
      refine Met.intro (hT _ _ ?_)
      exact ⟨Fr.of _ rfl ⟨by rw [HE.out]; rfl, trivial⟩, hb⟩
    · have HE := Lib.hid (show givesV r ps ts = 0 by rw [Hv.out, Ht.out, if_neg (by decide), if_neg (by decide), if_pos rfl, if_neg hge, Int.mul_zero])
      have hgd : decide (mn ≤ m) = false := by simp; omega
      go_wp2_with fail
      refine Met.intro (hT _ _ ?_)
      exact ⟨Fr.of _ rfl ⟨by rw [HE.out]; rfl, trivial⟩, hb⟩
  · clear hm
    by_cases hz : m = 0
    · have HE := Lib.hid (show givesV r ps ts = h by rw [Hv.out, Ht.out, if_neg (by decide), if_neg (by decide), if_neg (by decide), if_pos hz, Int.mul_one])
      have hzb : (m == 0) = true := by simp [hz]
      clear hz
      go_wp2_with fail
      refine Met.intro (hT _ _ ?_)
      exact ⟨Fr.of _ rfl ⟨by rw [HE.out]; rfl, trivial⟩, hb⟩
    · have HE := Lib.hid (show givesV r ps ts = 0 by rw [Hv.out, Ht.out, if_neg (by decide), if_neg (by decide), if_neg (by decide), if_neg hz, Int.mul_zero])
      have hzb : (m == 0) = false := by simp [hz]
      clear hz
      go_wp2_with fail
      refine Met.intro (hT _ _ ?_)
      exact ⟨Fr.of _ rfl ⟨by rw [HE.out]; rfl, trivial⟩, hb⟩

set_option maxRecDepth 100000 in
set_option maxHeartbeats 1000000 in
theorem gp_all (w0 : World) (r : RuleL) (pl : ByteArray) (wk : Int) (vt vp : Value) (ts : List StatL) (ps : List ByteArray) (g3 g5 : Nat) (hr : RuleGood r) (hc : ∀ t ∈ ts, -100000 ≤ t.count ∧ t.count ≤ 100000) : T3 Try.prog (fun a w => True ∧ Gw w0 r pl wk vt vp ts ps g3 g5 w ∧ Fr 76 [(1, vp), (3, .pointer (some ⟨g3, 0, none⟩)), (5, .pointer (some ⟨g5, 0, none⟩))] a) (sel [1] givesP) No No 9 (fun a w => Fr 76 [(6, .int .i64 (givesV r ps ts))] a ∧ Below w0.heap.size w0 w) := by
  cases hp : posBad r ps
  · refine T3.seq (s := (sel [1, 0] givesP)) (c := (sel [1, 1] givesP)) (T3.test (s := (sel [1, 0, 0] givesP)) (x := (sel [1, 0, 1, 2] givesP)) (y := .skip) (l := [(1, vp), (3, .pointer (some ⟨g3, 0, none⟩)), (5, .pointer (some ⟨g5, 0, none⟩))]) (C := fun q => q = posBad r ps) (W := Gw w0 r pl wk vt vp ts ps g3 g5) (by decide) (gp_pos w0 r pl wk vt vp ts ps g3 g5 hr hc) (T3.noS (gp_none w0 r pl wk vt vp ts ps g3 g5 hr hc)) (T3.skip (fun a w q => q))) ?_
    refine T3.seq (s := (sel [1, 1, 0] givesP)) (c := (sel [1, 1, 1] givesP)) ((gp_c0 w0 r pl wk vt vp ts ps g3 g5 hr hc).pre (fun a w q => ⟨trivial, q.2⟩)) ?_
    refine T3.seq (s := (sel [1, 1, 1, 0] givesP)) (c := (sel [1, 1, 1, 1] givesP)) (T3.seq (s := (sel [1, 1, 1, 0, 0] givesP)) (c := (sel [1, 1, 1, 0, 1] givesP)) (gp_c1 w0 r pl wk vt vp ts ps g3 g5 hr hc) (gp_cnt w0 r pl wk vt vp ts ps g3 g5 hr hc)) ?_
    refine T3.seq (s := (sel [1, 1, 1, 1, 0] givesP)) (c := (sel [1, 1, 1, 1, 1] givesP)) ((gp_worth w0 r pl wk vt vp ts ps g3 g5 hr hc).pre (fun a w q => ⟨trivial, q.2.1, q.2.2.sub (by intro p hp; simp at hp ⊢; rcases hp with h | h | h | h <;> simp [h, cnt])⟩)) ?_
    exact gp_sw w0 r pl wk vt vp ts ps g3 g5 hr hc hp
  · refine T3.seq (s := (sel [1, 0] givesP)) (c := (sel [1, 1] givesP)) (T3.test (s := (sel [1, 0, 0] givesP)) (x := (sel [1, 0, 1, 2] givesP)) (y := .skip) (l := [(1, vp), (3, .pointer (some ⟨g3, 0, none⟩)), (5, .pointer (some ⟨g5, 0, none⟩))]) (C := fun q => q = posBad r ps) (W := Gw w0 r pl wk vt vp ts ps g3 g5) (by decide) (gp_pos w0 r pl wk vt vp ts ps g3 g5 hr hc) (T3.noS (gp_none w0 r pl wk vt vp ts ps g3 g5 hr hc)) (T3.skip (fun a w q => q))) ?_
    intro a w q
    rw [hp] at q
    cases q.1

set_option maxRecDepth 100000 in
set_option maxHeartbeats 1000000 in
theorem gives_prog (w0 : World) (r : RuleL) (pl : ByteArray) (wk : Int) (vt vp : Value) (ts : List StatL) (ps : List ByteArray) (hr : RuleGood r) (hc : ∀ t ∈ ts, -100000 ≤ t.count ∧ t.count ≤ 100000)
    (htr : Row w0 0 2 vt ts.length (cellsOf encT ts)) (hpr : Row w0 0 1 vp ps.length (cellsOf encSt ps)) :
    Calls Try.prog 88 #[.agg #[.string r.key, .string r.stat, .string r.pos, .int .i64 r.kind, .int .i64 r.many, .int .i64 r.num, .int .i64 r.den], vp, .agg #[.string pl, .int .i64 wk, vt]] w0 fun e w' =>
      e = .returned (.int .i64 (givesV r ps ts)) ∧ Below w0.heap.size w0 w' := by
  have hb1 := (Below.refl w0.heap.size w0).alloc (Nat.le_refl _) (.cells (encR r).toArray 86)
  have hb2 := (Below.refl (w0.alloc (.cells (encR r).toArray 86)).heap.size (w0.alloc (.cells (encR r).toArray 86))).alloc (Nat.le_refl _) (.cells #[.string pl, .int .i64 wk, vt] 92)
  have hM : Gw w0 r pl wk vt vp ts ps w0.heap.size (w0.alloc (.cells (encR r).toArray 86)).heap.size ((w0.alloc (.cells (encR r).toArray 86)).alloc (.cells #[.string pl, .int .i64 wk, vt] 92)) :=
    ⟨hb1.trans (hb2.mono hb1.size), (CellsAt.new w0 (encR r).toArray _).below hb2, CellsAt.new _ _ _, (htr.below hb1).below hb2, (hpr.below hb1).below hb2⟩
  have HM := Lib.hid hM
  obtain ⟨p1, c1, hv1⟩ := htr.shape
  obtain ⟨p2, c2, hv2⟩ := hpr.shape
  subst hv1
  subst hv2
  unfold encR at HM
  have hsz : (w0.alloc (.cells (encR r).toArray 86)).heap.size = w0.heap.size + 1 := by simp
  unfold encR at hsz
  rw [hsz] at HM
  clear hM hb1 hb2 hsz
  go_enter Try.func88, Try.ntmps88
  refine T3.done (P := Try.prog) (s := givesP) (R := fun a w => w = w0 ∧ Fr 76 [(0, .agg #[.string r.key, .string r.stat, .string r.pos, .int .i64 r.kind, .int .i64 r.many, .int .i64 r.num, .int .i64 r.den]), (1, .slice p2 ps.length c2), (2, .agg #[.string pl, .int .i64 wk, .slice p1 ts.length c1])] a)
    (T3.seq (s := (sel [0] givesP)) (c := (sel [1] givesP)) ?_ (gp_all w0 r pl wk (.slice p1 ts.length c1) (.slice p2 ps.length c2) ts ps w0.heap.size (w0.heap.size + 1) hr hc)) ⟨rfl, Fr.of _ rfl ⟨rfl, rfl, rfl, trivial⟩⟩ ?_
  · refine T3.leaf ?_
    rintro Q JS JX JT K hS hK hX hE hT hR a w ⟨hw, ⟨f, rfl, q0, q1, q2, _⟩⟩
    subst hw
    rw [frame76, show f 0 = _ from q0, show f 1 = _ from q1, show f 2 = _ from q2]
    clear q0 q1 q2
    conv => arg 2; whnf
    go_wp2_with fail
    refine Met.intro (hS _ _ ?_)
    exact ⟨trivial, HM.out, Fr.of _ rfl ⟨rfl, rfl, rfl, trivial⟩⟩
  · rintro a w ⟨⟨f, rfl, q6, _⟩, hb⟩
    rw [frame76, show f 6 = _ from q6]
    go_ret
    exact ⟨rfl, hb⟩

def grC (w0 : World) (r : RuleL) (pl : ByteArray) (wk : Int) (vt vp : Value) (ts : List StatL) (ps : List ByteArray) (g3 g5 : Nat) (k : Int) (a : Act) (w : World) : Prop := (0 ≤ k ∧ k ≤ ts.length) ∧ Gw w0 r pl wk vt vp ts ps g3 g5 w ∧ Fr 78 [(12, vt), (13, .int .i64 ts.length), (14, .int .i64 k), (7, .int .i64 (cntTo ts r.stat k)), (1, vp), (3, .pointer (some ⟨g3, 0, none⟩)), (5, .pointer (some ⟨g5, 0, none⟩))] a
end Go.Proofs.Ytnmdpphddimfbaa
/-
  The points of a line: the program's and the reference's sum. Conditions: the rules and the line are right.
-/
set_option linter.unusedVariables false
namespace Go.Proofs.Ytnmdpphddimfbaa
open Go.RowKit Go.Bw
def ptsTo (rs : List RuleL) (ps : List ByteArray) (ts : List StatL) (k : Int) : Int := ((rs.take k.toNat).map fun r => givesV r ps ts).sum
def ptsV (rs : List RuleL) (ps : List ByteArray) (ts : List StatL) : Int := ptsTo rs ps ts rs.length
theorem ptsTo_zero (rs : List RuleL) (ps : List ByteArray) (ts : List StatL) : ptsTo rs ps ts 0 = 0 := rfl
theorem ptsTo_succ (rs : List RuleL) (ps : List ByteArray) (ts : List StatL) (k : Int) (h0 : 0 ≤ k) (h1 : k < rs.length) : ptsTo rs ps ts (k + 1) = ptsTo rs ps ts k + givesV (geta rs k) ps ts := by
  unfold ptsTo
  rw [show (k + 1).toNat = k.toNat + 1 by omega, List.take_succ_eq_append_getElem (by omega), geta_eq rs k h0 h1, List.map_append, List.sum_append]
  simp only [List.map_cons, List.map_nil, List.sum_cons, List.sum_nil]
  omega
theorem gives_le {r : RuleL} (hr : RuleGood r) (ps : List ByteArray) (ts : List StatL) (hc : ∀ t ∈ ts, -100000 ≤ t.count ∧ t.count ≤ 100000) : -100000000000 ≤ givesV r ps ts ∧ givesV r ps ts ≤ 100000000000 := by
  have hcb := cntTo_le ts r.stat hc ts.length (by omega) (by omega)
  have htb := times_le r (cnt ts r.stat) hr.m hcb.1 hcb.2
  have := mul_b (hund r.num r.den) (timesV r (cnt ts r.stat)) hr.h0 hr.h1 htb.1 htb.2
  unfold givesV
  split
  · omega
  · exact this
theorem ptsTo_le {rs : List RuleL} (hg : ∀ r ∈ rs, RuleGood r) (hl : rs.length ≤ 100) (ps : List ByteArray) (ts : List StatL) (hc : ∀ t ∈ ts, -100000 ≤ t.count ∧ t.count ≤ 100000) (k : Int) (h0 : 0 ≤ k) (h1 : k ≤ rs.length) :
    -10000000000000 ≤ ptsTo rs ps ts k ∧ ptsTo rs ps ts k ≤ 10000000000000 := by
  have key : ∀ m : Nat, m ≤ rs.length → -(100000000000 * (m : Int)) ≤ ptsTo rs ps ts m ∧ ptsTo rs ps ts m ≤ 100000000000 * (m : Int) := by
    intro m
    induction m with
    | zero => intro _; have := ptsTo_zero rs ps ts; simp at this ⊢; rw [this]; omega
    | succ m ih =>
      intro hm
      have hs := ptsTo_succ rs ps ts m (by omega) (by omega)
      have hgl := gives_le (hg _ (geta_mem (l := rs) (i := m) (by omega) (by omega))) ps ts hc
      have := ih (by omega)
      rw [show ((m + 1 : Nat) : Int) = (m : Int) + 1 by omega, hs]
      omega
  have := key k.toNat (by omega)
  rw [show ((k.toNat : Nat) : Int) = k by omega] at this
  omega

set_option maxRecDepth 100000 in
set_option maxHeartbeats 2000000 in
theorem points_prog (w0 : World) (vr vp vt : Value) (rs : List RuleL) (ps : List ByteArray) (ts : List StatL) (pl : ByteArray) (wk : Int) (hg : ∀ r ∈ rs, RuleGood r) (hl : rs.length ≤ 100) (hc : ∀ t ∈ ts, -100000 ≤ t.count ∧ t.count ≤ 100000)
    (hrr : Row w0 0 7 vr rs.length (cellsOf encR rs)) (htr : Row w0 0 2 vt ts.length (cellsOf encT ts)) (hpr : Row w0 0 1 vp ps.length (cellsOf encSt ps)) :
    Calls Try.prog 76 #[vr, vp, .agg #[.string pl, .int .i64 wk, vt]] w0 fun e w' => e = .returned (.int .i64 (ptsV rs ps ts)) ∧ Below w0.heap.size w0 w' := by
  obtain ⟨_, hcs⟩ := hrr.els encR_length (by decide)
  obtain ⟨p0, c0, hv0⟩ := hrr.shape
  obtain ⟨p1, c1, hv1⟩ := htr.shape
  obtain ⟨p2, c2, hv2⟩ := hpr.shape
  have Hv1 := Lib.hid hv1
  have Hv2 := Lib.hid hv2
  clear hrr
  subst hv0
  subst hv1
  subst hv2
  go_enter Try.func76, Try.ntmps76
  go_wp2_with fail
  have hbW := (Below.refl w0.heap.size w0).alloc (Nat.le_refl _) (.cells #[.string pl, .int .i64 wk, .slice p1 ts.length c1] 92)
  have hL := CellsAt.new w0 #[.string pl, .int .i64 wk, .slice p1 ts.length c1] 92
  generalize (w0.alloc (.cells #[.string pl, .int .i64 wk, .slice p1 ts.length c1] 92)) = W at *
  go_loopw [12, 7] (fun i s wr => ∃ k : Int, 0 ≤ k ∧ k ≤ rs.length ∧ i = .int .i64 k ∧ s = .int .i64 (ptsTo rs ps ts k) ∧ Below W.heap.size W wr) (fun i _ _ => rs.length - (intOf i).toNat)
  case atStart => exact ⟨0, by omega, by omega, rfl, rfl, Below.refl _ _⟩
  case round =>
    obtain ⟨k, hk0, hk1, rfl, rfl, hb⟩ := hrel
    have hpb := ptsTo_le hg hl ps ts hc k hk0 hk1
    by_cases hlt : k < rs.length
    · rcases hcs with ⟨_, h0⟩ | ⟨b, off, cap, hv, _, hbs, hnc, hcm, hcell⟩
      · omega
      simp only [Value.slice.injEq] at hv
      obtain ⟨rfl, _, rfl⟩ := hv
      have hall := hbW.trans (hb.mono hbW.size)
      have tr : ∀ j u, (encR (geta rs k))[j]? = some u → wr.cell? ⟨b, off + k.toNat * 7 + j, none⟩ = some u := fun j u h => (hall.cell (p := ⟨b, off + k.toNat * 7 + j, none⟩) hbs).trans (hcell k hk0 hlt j u h)
      have t0 := tr 0 _ rfl
      have t1 := tr 1 _ rfl
      have t2 := tr 2 _ rfl
      have t3 := tr 3 _ rfl
      have t4 := tr 4 _ rfl
      have t5 := tr 5 _ rfl
      have t6 := tr 6 _ rfl
      rw [Nat.add_zero] at t0
      have hgr := hg _ (geta_mem hk0 hlt)
      have Hs := Lib.hid (ptsTo_succ rs ps ts k hk0 hlt)
      have hgb := gives_le hgr ps ts hc
      have hbn := hb.alloc hb.size (.cells (encR (geta rs k)).toArray 86)
      have hC := CellsAt.new wr (encR (geta rs k)).toArray 86
      have hln := hL.below hbn
      have hall2 := hall.trans ((Below.refl wr.heap.size wr).alloc (Nat.le_refl _) (.cells (encR (geta rs k)).toArray 86) |>.mono hall.size)
      have HT := Lib.hid (htr.below hall2)
      have HP := Lib.hid (hpr.below hall2)
      have HG := fun w h1 h2 => gives_prog w (geta rs k) pl wk (.slice p1 ts.length c1) (.slice p2 ps.length c2) ts ps hgr hc h1 h2
      have HG := Lib.hid HG
      clear tr hcell hL hgr hall
      generalize geta rs k = R at *
      unfold encR at hC hbn hln hall2 HT HP
      go_upto_region 5 with fail
      change Below W.heap.size W (wr.alloc (.cells #[.string R.key, .string R.stat, .string R.pos, .int .i64 R.kind, .int .i64 R.many, .int .i64 R.num, .int .i64 R.den] 86)) at hbn
      change CellsAt (wr.alloc (.cells #[.string R.key, .string R.stat, .string R.pos, .int .i64 R.kind, .int .i64 R.many, .int .i64 R.num, .int .i64 R.den] 86)) _ _ at hC
      change CellsAt (wr.alloc (.cells #[.string R.key, .string R.stat, .string R.pos, .int .i64 R.kind, .int .i64 R.many, .int .i64 R.num, .int .i64 R.den] 86)) _ _ at hln
      change Below w0.heap.size w0 (wr.alloc (.cells #[.string R.key, .string R.stat, .string R.pos, .int .i64 R.kind, .int .i64 R.many, .int .i64 R.num, .int .i64 R.den] 86)) at hall2
      change Hid (Row (wr.alloc (.cells #[.string R.key, .string R.stat, .string R.pos, .int .i64 R.kind, .int .i64 R.many, .int .i64 R.num, .int .i64 R.den] 86)) _ _ _ _ _) at HT
      change Hid (Row (wr.alloc (.cells #[.string R.key, .string R.stat, .string R.pos, .int .i64 R.kind, .int .i64 R.many, .int .i64 R.num, .int .i64 R.den] 86)) _ _ _ _ _) at HP
      generalize wr.alloc (.cells #[.string R.key, .string R.stat, .string R.pos, .int .i64 R.kind, .int .i64 R.many, .int .i64 R.num, .int .i64 R.den] 86) = W2 at *
      have r0 := hC.2 0 _ rfl
      have r1 := hC.2 1 _ rfl
      have r2 := hC.2 2 _ rfl
      have r3 := hC.2 3 _ rfl
      have r4 := hC.2 4 _ rfl
      have r5 := hC.2 5 _ rfl
      have r6 := hC.2 6 _ rfl
      have l0 := hln.2 0 _ rfl
      have l1 := hln.2 1 _ rfl
      have l2 := hln.2 2 _ rfl
      clear hC hln t0 t1 t2 t3 t4 t5 t6 hall2
      generalize wr.heap.size = g at *
      go_wp2_with (go_at_call 88; refine (HG.out _ HT.out HP.out).mono ?_; rintro e w1 ⟨rfl, hb3⟩; replace hbn := hbn.trans (hb3.mono hbn.size); clear hb3 r0 r1 r2 r3 r4 r5 r6 l0 l1 l2)
      go_roundw
      case rel => exact ⟨k + 1, by omega, by omega, rfl, by rw [Hs.out], hbn⟩
      case measure => simp [intOf]; omega
    · obtain rfl : k = rs.length := by omega
      clear hcs hk0 hk1 hlt
      change -10000000000000 ≤ ptsV rs ps ts ∧ ptsV rs ps ts ≤ 10000000000000 at hpb
      go_wp2_with fail
      go_ret
      exact ⟨rfl, hbW.trans (hb.mono hbW.size)⟩

end Go.Proofs.Ytnmdpphddimfbaa
/-
  What is wrong with rules, positions and lines. Conditions: strings and numbers are no greater than Go's.
-/
set_option linter.unusedVariables false
namespace Go.Bw
open Go.RowKit
structure LineL where
  player : ByteArray
  week : Int
  sv : Value
  stats : List StatL
instance : Inhabited LineL := ⟨⟨ByteArray.empty, 0, .slice none 0 0, []⟩⟩
def encL (x : LineL) : List Value := [.string x.player, .int .i64 x.week, x.sv]
theorem encL_length (x : LineL) : (encL x).length = 3 := rfl
/-- The lines' own rows. -/
def LinesAt (w : World) (l : List LineL) : Prop := ∀ x ∈ l, Row w 0 2 x.sv x.stats.length (cellsOf encT x.stats)
theorem LinesAt.below {w w' : World} {l : List LineL} (h : LinesAt w l) (b : Below w.heap.size w w') : LinesAt w' l := fun x hx => (h x hx).below b
structure LineOk (x : LineL) : Prop where
  player : x.player.size ≤ 9223372036854775807
  stats : ∀ t ∈ x.stats, StatOk t
end Go.Bw
namespace Go.Proofs.Ytnmdpphddimfbaa
open Go.RowKit Go.Bw
def lineL (x : LineL) : Int := lineE x.player x.week x.stats
def linesE (l : List LineL) : Int := firstErr (fun i => lineL (geta l i)) l.length
def askedE (rs : List RuleL) (ps : List ByteArray) (ls : List LineL) : Int := if rulesE rs ≠ 0 then rulesE rs else if listE ps ≠ 0 then listE ps else linesE ls

set_option maxRecDepth 100000 in
set_option maxHeartbeats 2000000 in
theorem asked_any (w0 : World) (vr vp vl : Value) (rs : List RuleL) (ps : List ByteArray) (ls : List LineL) (hz : ∀ r ∈ rs, RuleOk r) (hzp : ∀ s ∈ ps, s.size ≤ 9223372036854775807) (hzl : ∀ x ∈ ls, LineOk x)
    (hrr : Row w0 0 7 vr rs.length (cellsOf encR rs)) (hpr : Row w0 0 1 vp ps.length (cellsOf encSt ps)) (hlr : Row w0 0 3 vl ls.length (cellsOf encL ls)) (hla : LinesAt w0 ls) :
    Calls Try.prog 74 #[vr, vp, vl] w0 fun e w' => e = .returned (.int .i64 (askedE rs ps ls)) ∧ Below w0.heap.size w0 w' := by
  have hA := Lib.hid (show askedE rs ps ls = if rulesE rs ≠ 0 then rulesE rs else if listE ps ≠ 0 then listE ps else linesE ls from rfl)
  have hLs := Lib.hid (show listE ps = if 10 < ps.length then 2 else risingE ps from rfl)
  have HR := Lib.hid (rules_prog vr rs.length rs 0 w0 hrr hz)
  obtain ⟨p2, c2, hv2⟩ := hpr.shape
  obtain ⟨p3, c3, hv3⟩ := hlr.shape
  obtain ⟨p1, c1, hv1⟩ := hrr.shape
  by_cases h1 : rulesE rs = 0
  · rw [h1] at HR
    by_cases h10 : 10 < ps.length
    · have HE := Lib.hid (show askedE rs ps ls = 2 by rw [hA.out, h1, if_neg (by simp), hLs.out, if_pos h10, if_pos (by decide)])
      subst hv1
      subst hv2
      subst hv3
      clear h1
      go_enter Try.func74, Try.ntmps74
      go_wp2_with (go_at_call 84; refine HR.out.mono ?_; rintro e w1 ⟨rfl, hb⟩)
      go_ret
      exact ⟨ret_int HE.out.symm, hb⟩
    · have hd10 : decide ((10 : Int) < ps.length) = false := by simp; omega
      have HP := Lib.hid (fun w1 hb => rising_prog vp ps.length ps 0 w1 (hpr.below (w' := w1) hb) hzp)
      by_cases h2 : risingE ps = 0
      · rw [h2] at HP
        have HE := Lib.hid (show askedE rs ps ls = linesE ls by rw [hA.out, h1, if_neg (by simp), hLs.out, if_neg h10, h2, if_neg (by simp)])
        obtain ⟨_, hcs⟩ := hlr.els encL_length (by decide)
        subst hv1
        subst hv2
        subst hv3
        clear h1 h2
        go_enter Try.func74, Try.ntmps74
        go_wp2_with first
          | (go_at_call 84; refine HR.out.mono ?_; rintro e w1 ⟨rfl, hb⟩)
          | (go_at_call 85; refine (HP.out _ hb).mono ?_; rintro e w2 ⟨rfl, hb2⟩; replace hb := hb.trans (hb2.mono hb.size); clear hb2)
        go_loopw [27] (fun i wr => ∃ k : Int, 0 ≤ k ∧ k ≤ ls.length ∧ NoErr (fun i => lineL (geta ls i)) k ∧ i = .int .i64 k ∧ Below w0.heap.size w0 wr) (fun i _ => ls.length - (intOf i).toNat)
        case atStart => exact ⟨0, by omega, by omega, NoErr.zero _, rfl, hb⟩
        case round =>
          clear hb
          obtain ⟨k, hk0, hk1, hok, rfl, hb⟩ := hrel
          by_cases hlt : k < ls.length
          · rcases hcs with ⟨_, h0⟩ | ⟨b, off, cap, hv, _, hbs, hnc, hcm, hcell⟩
            · omega
            simp only [Value.slice.injEq] at hv
            obtain ⟨rfl, _, rfl⟩ := hv
            have tr : ∀ j u, (encL (geta ls k))[j]? = some u → wr.cell? ⟨b, off + k.toNat * 3 + j, none⟩ = some u := fun j u h => (hb.cell (p := ⟨b, off + k.toNat * 3 + j, none⟩) hbs).trans (hcell k hk0 hlt j u h)
            have t0 := tr 0 _ rfl
            have t1 := tr 1 _ rfl
            have t2 := tr 2 _ rfl
            rw [Nat.add_zero] at t0
            have hm := geta_mem (l := ls) hk0 hlt
            have hx := hzl _ hm
            have hxr := hla _ hm
            have hbn := hb.alloc hb.size (.cells (encL (geta ls k)).toArray 92)
            have HC := Lib.hid (line_prog (geta ls k).player (geta ls k).week (geta ls k).sv (geta ls k).stats.length (geta ls k).stats 0 _ hx.player (hxr.below hbn) hx.stats)
            have hst := Lib.hid (fun h => hok.step (f := fun i => lineL (geta ls i)) (i := k) h)
            have hHit := Lib.hid (fun h => firstErr_hit hok hk0 hlt h)
            have hLL := Lib.hid (show lineE (geta ls k).player (geta ls k).week (geta ls k).stats = lineL (geta ls k) from rfl)
            obtain ⟨p4, c4, hv4⟩ := hxr.shape
            have q0 := cells_new wr (encL (geta ls k)).toArray 92 0 _ rfl
            have q1 := cells_new wr (encL (geta ls k)).toArray 92 1 _ rfl
            have q2 := cells_new wr (encL (geta ls k)).toArray 92 2 _ rfl
            rw [hLL.out] at HC
            clear tr hcell hx hxr hm hok
            unfold encL at hbn HC q0 q1 q2
            rw [hv4] at t2 hbn HC q0 q1 q2
            clear hv4
            generalize (geta ls k).player = s1 at *
            generalize (geta ls k).week = n1 at *
            generalize (geta ls k).stats.length = n2 at *
            generalize hlv : lineL (geta ls k) = lv at *
            have HLV := Lib.hid hlv
            clear hlv hLL
            go_upto_region 12 with fail
            change Below w0.heap.size w0 (wr.alloc (.cells #[.string s1, .int .i64 n1, .slice p4 n2 c4] 92)) at hbn
            change Hid (Calls _ _ _ (wr.alloc (.cells #[.string s1, .int .i64 n1, .slice p4 n2 c4] 92)) _) at HC
            change (wr.alloc (.cells #[.string s1, .int .i64 n1, .slice p4 n2 c4] 92)).cell? _ = _ at q0
            change (wr.alloc (.cells #[.string s1, .int .i64 n1, .slice p4 n2 c4] 92)).cell? _ = _ at q1
            change (wr.alloc (.cells #[.string s1, .int .i64 n1, .slice p4 n2 c4] 92)).cell? _ = _ at q2
            generalize wr.alloc (.cells #[.string s1, .int .i64 n1, .slice p4 n2 c4] 92) = W2 at *
            generalize wr.heap.size = g at *
            clear t0 t1 t2
            by_cases hlv0 : lv = 0
            · subst hlv0
              go_wp2_with (go_at_call 86; refine HC.out.mono ?_; rintro e w3 ⟨rfl, hb3⟩; replace hbn := hbn.trans (hb3.mono hbn.size); clear hb3)
              go_roundw
              case rel => exact ⟨k + 1, by omega, by omega, by first | exact hst.out trivial | exact hst.out rfl | exact hst.out HLV.out, rfl, hbn⟩
              case measure => simp [intOf]; omega
            · have hnb : (lv != 0) = true := by simp [hlv0]
              have HF := Lib.hid (show linesE ls = lv by unfold linesE; first | exact hHit.out hlv0 | exact (hHit.out hlv0).trans HLV.out)
              clear hlv0
              go_wp2_with (go_at_call 86; refine HC.out.mono ?_; rintro e w3 ⟨rfl, hb3⟩; replace hbn := hbn.trans (hb3.mono hbn.size); clear hb3)
              go_ret
              exact ⟨ret_int (by rw [HE.out, HF.out]), hbn⟩
          · have hf := Lib.hid (show linesE ls = 0 from firstErr_none (fun j h0 h1 => hok j h0 (by omega)))
            clear hcs hok
            go_wp2_with fail
            go_ret
            exact ⟨ret_int (by rw [HE.out, hf.out]), hb⟩
      · have hnb : (risingE ps != 0) = true := by simp [h2]
        have HE := Lib.hid (show askedE rs ps ls = risingE ps by rw [hA.out, h1, if_neg (by simp), hLs.out, if_neg h10, if_pos h2])
        subst hv1
        subst hv2
        subst hv3
        clear h1 h2
        generalize risingE ps = e1 at *
        go_enter Try.func74, Try.ntmps74
        go_wp2_with first
          | (go_at_call 84; refine HR.out.mono ?_; rintro e w1 ⟨rfl, hb⟩)
          | (go_at_call 85; refine (HP.out _ hb).mono ?_; rintro e w2 ⟨rfl, hb2⟩; replace hb := hb.trans (hb2.mono hb.size); clear hb2)
        go_ret
        exact ⟨ret_int HE.out.symm, hb⟩
  · have hnb : (rulesE rs != 0) = true := by simp [h1]
    have HE := Lib.hid (show askedE rs ps ls = rulesE rs by rw [hA.out, if_pos h1])
    subst hv1
    subst hv2
    subst hv3
    clear h1
    generalize rulesE rs = e1 at *
    go_enter Try.func74, Try.ntmps74
    go_wp2_with (go_at_call 84; refine HR.out.mono ?_; rintro e w1 ⟨rfl, hb⟩)
    go_ret
    exact ⟨ret_int HE.out.symm, hb⟩
end Go.Proofs.Ytnmdpphddimfbaa
/-
  The sum of some weeks: plain lemmas. No condition.
-/
set_option linter.unusedVariables false
namespace Go.Proofs.Ytnmdpphddimfbaa
open Go.RowKit Go.Bw
def ordAt (ls : List LineL) (i : Int) : Int := if 0 < i ∧ (geta ls i).week ≤ (geta ls (i - 1)).week then 7 else 0
def orderE (ls : List LineL) : Int := firstErr (ordAt ls) ls.length
def windowB (f t : Int) : Bool := outB f 1 t || decide (61 < t)
def inW (f t : Int) (x : LineL) : Bool := decide (f ≤ x.week) && decide (x.week < t)
def weekV (rs : List RuleL) (ps : List ByteArray) (f t : Int) (x : LineL) : Int := if inW f t x = true then ptsV rs ps x.stats else 0
def totTo (rs : List RuleL) (ps : List ByteArray) (f t : Int) (ls : List LineL) (k : Int) : Int := ((ls.take k.toNat).map fun x => weekV rs ps f t x).sum
def totV (rs : List RuleL) (ps : List ByteArray) (f t : Int) (ls : List LineL) : Int := totTo rs ps f t ls ls.length
def Counts (x : LineL) : Prop := ∀ t ∈ x.stats, -100000 ≤ t.count ∧ t.count ≤ 100000
/-- A line that is right counts within bounds. -/
theorem line_counts {x : LineL} (h : lineL x = 0) : Counts x := by
  intro t ht
  obtain ⟨i, hi, rfl⟩ := List.getElem_of_mem ht
  unfold lineL lineE at h
  split at h
  · cases h
  split at h
  · cases h
  split at h
  · cases h
  have hat := firstErr_zero h i (by omega) (by omega)
  have hg : geta x.stats i = x.stats[i] := geta_eq x.stats i (by omega) (by omega)
  unfold statAt at hat
  rw [hg] at hat
  split at hat
  · cases hat
  split at hat
  · cases hat
  · rename_i h2
    exact out_no (by simpa using h2)
theorem lines_counts {ls : List LineL} (h : linesE ls = 0) : ∀ x ∈ ls, Counts x := by
  intro x hx
  obtain ⟨i, hi, rfl⟩ := List.getElem_of_mem hx
  have hat := firstErr_zero h i (by omega) (by omega)
  have hg : geta ls i = ls[i] := geta_eq ls i (by omega) (by omega)
  rw [hg] at hat
  exact line_counts hat
theorem asked_ok {rs : List RuleL} {ps : List ByteArray} {ls : List LineL} (h : askedE rs ps ls = 0) : rulesE rs = 0 ∧ listE ps = 0 ∧ linesE ls = 0 := by
  unfold askedE at h
  by_cases h1 : rulesE rs = 0
  · rw [if_neg (by simp [h1])] at h
    by_cases h2 : listE ps = 0
    · rw [if_neg (by simp [h2])] at h
      exact ⟨h1, h2, h⟩
    · rw [if_pos h2] at h
      exact absurd h h2
  · rw [if_pos h1] at h
    exact absurd h h1
theorem rules_len {rs : List RuleL} (h : rulesE rs = 0) : rs.length ≤ 100 := by
  unfold rulesE at h
  split at h
  · cases h
  · omega
def totalE (rs : List RuleL) (ps : List ByteArray) (ls : List LineL) (f t : Int) : Int := if askedE rs ps ls ≠ 0 then askedE rs ps ls else if orderE ls ≠ 0 then orderE ls else if windowB f t = true then 1 else 0

end Go.Proofs.Ytnmdpphddimfbaa
/-
  The program's Points; the law's own look that the package scores. Conditions: strings and numbers are no greater than Go's.
-/
set_option linter.unusedVariables false
namespace Go.Proofs.Ytnmdpphddimfbaa
open Go.RowKit Go.Bw
def pubN (rs : List RuleL) (ps : List ByteArray) (x : LineL) : Int := if askedE rs ps [x] = 0 then ofHn (ptsV rs ps x.stats) else 0
def pubD (rs : List RuleL) (ps : List ByteArray) (x : LineL) : Int := if askedE rs ps [x] = 0 then ofHd (ptsV rs ps x.stats) else 0

/-- The call's own blocks: the line, the result. -/
structure Pw (w0 w : World) (x : LineL) : Prop where
  line : CellsAt w w0.heap.size (encL x)
  res : CellsAt w (w0.heap.size + 1) [.int .i64 0, .int .i64 0]
  fr0 : w.frozen? ⟨w0.heap.size + 1, 0, none⟩ = false
  fr1 : w.frozen? ⟨w0.heap.size + 1, 1, none⟩ = false
  bel : Below w0.heap.size w0 w
theorem Pw.below {w0 w w' : World} {x : LineL} (h : Pw w0 w x) (b : Below w.heap.size w w') : Pw w0 w' x :=
  ⟨h.line.below b, h.res.below b, (b.frozen (p := ⟨w0.heap.size + 1, 0, none⟩) h.res.1).trans h.fr0, (b.frozen (p := ⟨w0.heap.size + 1, 1, none⟩) h.res.1).trans h.fr1, h.bel.trans (b.mono h.bel.size)⟩
theorem Pw.start (w0 : World) (x : LineL) : Pw w0 ((w0.alloc (.cells (encL x).toArray 92)).alloc (.cells #[.int .i64 0, .int .i64 0] 61)) x := by
  have h0 := CellsAt.new w0 (encL x).toArray 92
  have hb := (Below.refl (w0.alloc (.cells (encL x).toArray 92)).heap.size (w0.alloc (.cells (encL x).toArray 92))).alloc (Nat.le_refl _) (.cells #[.int .i64 0, .int .i64 0] 61)
  have h1 := CellsAt.new (w0.alloc (.cells (encL x).toArray 92)) #[.int .i64 0, .int .i64 0] 61
  have f0 := frozen_new0 (w0.alloc (.cells (encL x).toArray 92)) #[.int .i64 0, .int .i64 0] 61
  have hs : (w0.alloc (.cells (encL x).toArray 92)).heap.size = w0.heap.size + 1 := by simp
  rw [hs] at h1 f0
  exact ⟨h0.below hb, h1, f0 0, f0 1, ((Below.refl _ _).alloc (Nat.le_refl _) _).alloc (by simp) _⟩
theorem Pw.put {w0 w : World} {l : LineL} (h : Pw w0 w l) (x y : Value) :
    ((w.setCell ⟨w0.heap.size + 1, 0, none⟩ x).setCell ⟨w0.heap.size + 1, 1, none⟩ y).cell? ⟨w0.heap.size + 1, 0, none⟩ = some x ∧
    ((w.setCell ⟨w0.heap.size + 1, 0, none⟩ x).setCell ⟨w0.heap.size + 1, 1, none⟩ y).cell? ⟨w0.heap.size + 1, 1, none⟩ = some y ∧
    Below w0.heap.size w0 ((w.setCell ⟨w0.heap.size + 1, 0, none⟩ x).setCell ⟨w0.heap.size + 1, 1, none⟩ y) := by
  have k0 := h.res.2 0 _ rfl
  have k1 := h.res.2 1 _ rfl
  refine ⟨?_, ?_, (h.bel.setCell (by simp) _).setCell (by simp) _⟩
  · rw [World.cell?_setCell_other _ _ _ _ (by simp)]
    exact World.cell?_setCell_same' _ _ _ (by rw [k0]; rfl)
  · exact World.cell?_setCell_same' _ _ _ (by rw [World.cell?_setCell_other _ _ _ _ (by simp), k1]; rfl)

set_option maxRecDepth 100000 in
set_option maxHeartbeats 2000000 in
theorem pub_any (w0 : World) (vr vp : Value) (rs : List RuleL) (ps : List ByteArray) (x : LineL) (hz : ∀ r ∈ rs, RuleOk r) (hzp : ∀ s ∈ ps, s.size ≤ 9223372036854775807) (hx : LineOk x)
    (hrr : Row w0 0 7 vr rs.length (cellsOf encR rs)) (hpr : Row w0 0 1 vp ps.length (cellsOf encSt ps)) (hla : Row w0 0 2 x.sv x.stats.length (cellsOf encT x.stats)) :
    Calls Try.prog 50 #[vr, vp, .agg #[.string x.player, .int .i64 x.week, x.sv]] w0 fun e w' => e = .returned (.tuple #[.agg #[.int .i64 (pubN rs ps x), .int .i64 (pubD rs ps x)], .int .i64 (askedE rs ps [x])]) ∧ Below w0.heap.size w0 w' := by
  obtain ⟨pl, wk, sv, ts⟩ := x
  dsimp only at hla ⊢
  obtain ⟨p1, c1, hv1⟩ := hla.shape
  subst hv1
  generalize hxx : (⟨pl, wk, .slice p1 ts.length c1, ts⟩ : LineL) = x at *
  have hsx : x.stats = ts ∧ x.sv = .slice p1 ts.length c1 := by subst hxx; exact ⟨rfl, rfl⟩
  have hP := Pw.start w0 x
  have hnew := (Below.refl ((w0.alloc (.cells (encL x).toArray 92)).alloc (.cells #[.int .i64 0, .int .i64 0] 61)).heap.size ((w0.alloc (.cells (encL x).toArray 92)).alloc (.cells #[.int .i64 0, .int .i64 0] 61))).alloc (Nat.le_refl _) (.cells (encL x).toArray 92)
  have hP2 := hP.below hnew
  have hlr : Row (((w0.alloc (.cells (encL x).toArray 92)).alloc (.cells #[.int .i64 0, .int .i64 0] 61)).alloc (.cells (encL x).toArray 92)) 0 3 (.slice (some ⟨w0.heap.size + 2, 0, none⟩) 1 1) [x].length (cellsOf encL [x]) := by
    have h := CellsAt.new ((w0.alloc (.cells (encL x).toArray 92)).alloc (.cells #[.int .i64 0, .int .i64 0] 61)) (encL x).toArray 92
    rw [show ((w0.alloc (.cells (encL x).toArray 92)).alloc (.cells #[.int .i64 0, .int .i64 0] 61)).heap.size = w0.heap.size + 2 by simp] at h
    exact ⟨rfl, .inr ⟨_, 0, 1, rfl, Nat.zero_le _, h.1, Nat.le_refl _, by decide, fun i u hu => by rw [Nat.zero_add]; exact h.2 i u hu⟩⟩
  have hlq : LinesAt (((w0.alloc (.cells (encL x).toArray 92)).alloc (.cells #[.int .i64 0, .int .i64 0] 61)).alloc (.cells (encL x).toArray 92)) [x] := fun y hy => by
    rw [List.mem_singleton.1 hy, hsx.1, hsx.2]; exact hla.below hP2.bel
  have HA := Lib.hid (asked_any _ vr vp _ rs ps [x] hz hzp (fun y hy => by rw [List.mem_singleton.1 hy]; exact hx) (hrr.below hP2.bel) (hpr.below hP2.bel) hlr hlq)
  obtain ⟨p0, c0, hv0⟩ := hrr.shape
  obtain ⟨p2, c2, hv2⟩ := hpr.shape
  have HE := Lib.hid (show ∀ e, askedE rs ps [x] = e → e ≠ 0 → pubN rs ps x = 0 ∧ pubD rs ps x = 0 from fun e h he => ⟨by unfold pubN; rw [h, if_neg he], by unfold pubD; rw [h, if_neg he]⟩)
  have HQ := Lib.hid (show askedE rs ps [x] = 0 → pubN rs ps x = ofHn (ptsV rs ps ts) ∧ pubD rs ps x = ofHd (ptsV rs ps ts) from fun h => by subst hxx; exact ⟨by unfold pubN; rw [h, if_pos rfl], by unfold pubD; rw [h, if_pos rfl]⟩)
  have HG := Lib.hid (show askedE rs ps [x] = 0 → (∀ r ∈ rs, RuleGood r) ∧ rs.length ≤ 100 ∧ (∀ t ∈ ts, -100000 ≤ t.count ∧ t.count ≤ 100000) from fun h => by
    obtain ⟨a1, a2, a3⟩ := asked_ok h
    exact ⟨rule_good hz a1, rules_len a1, by have hcx := lines_counts a3 x (by simp); unfold Counts at hcx; rwa [hsx.1] at hcx⟩)
  have hC : encL x = [.string pl, .int .i64 wk, .slice p1 ts.length c1] := by subst hxx; rfl
  rw [hC] at hP2 HA
  have HC := Lib.hid hC
  clear hlr hlq hnew hP hz hzp hx hxx hC hsx
  subst hv0
  subst hv2
  go_enter Try.func50, Try.ntmps50
  go_wp2_with fail
  change Hid (Calls _ _ _ (((w0.alloc (.cells #[.string pl, .int .i64 wk, .slice p1 ts.length c1] 92)).alloc (.cells #[.int .i64 0, .int .i64 0] 61)).alloc (.cells #[.string pl, .int .i64 wk, .slice p1 ts.length c1] 92)) _) at HA
  change Pw w0 (((w0.alloc (.cells #[.string pl, .int .i64 wk, .slice p1 ts.length c1] 92)).alloc (.cells #[.int .i64 0, .int .i64 0] 61)).alloc (.cells #[.string pl, .int .i64 wk, .slice p1 ts.length c1] 92)) x at hP2
  generalize ((w0.alloc (.cells #[.string pl, .int .i64 wk, .slice p1 ts.length c1] 92)).alloc (.cells #[.int .i64 0, .int .i64 0] 61)).alloc (.cells #[.string pl, .int .i64 wk, .slice p1 ts.length c1] 92) = W at *
  refine HA.out.mono ?_
  rintro e w1 ⟨rfl, hb⟩
  have hd := hP2.below hb
  clear hb HA hP2
  by_cases hA0 : askedE rs ps [x] = 0
  · obtain ⟨hg, hl, hcn⟩ := HG.out hA0
    obtain ⟨e1, e2⟩ := HQ.out hA0
    have HN := Lib.hid e1
    have HD := Lib.hid e2
    have HA0 := Lib.hid hA0
    rw [hA0]
    clear e1 e2 hA0 HE HQ HG
    have l0 := hd.line.2 0 _ (by rw [HC.out]; rfl)
    have l1 := hd.line.2 1 _ (by rw [HC.out]; rfl)
    have l2 := hd.line.2 2 _ (by rw [HC.out]; rfl)
    have hpb := ptsTo_le hg hl ps ts hcn (rs.length : Int) (by omega) (by omega)
    change -10000000000000 ≤ ptsV rs ps ts ∧ ptsV rs ps ts ≤ 10000000000000 at hpb
    have HPt := Lib.hid (points_prog w1 _ _ _ rs ps ts pl wk hg hl hcn (hrr.below hd.bel) (hla.below hd.bel) (hpr.below hd.bel))
    generalize ptsV rs ps ts = n at *
    go_wp2_with fail
    refine HPt.out.mono ?_
    rintro e w2 ⟨rfl, hb⟩
    replace hd := hd.below hb
    clear hb l0 l1 l2 HPt
    go_wp2_with fail
    refine (ofHundredths_prog n _ (by omega) (by omega)).mono ?_
    rintro e w3 ⟨rfl, hb⟩
    replace hd := hd.below hb
    clear hb
    obtain ⟨r0, r1, hB⟩ := hd.put (.int .i64 (ofHn n)) (.int .i64 (ofHd n))
    have k0 := hd.res.2 0 _ rfl
    have k1 := hd.res.2 1 _ rfl
    have kf := hd.fr0
    have kf1 := hd.fr1
    clear hd
    go_wp2_with fail
    exact bodyPost_ret (v := .tuple #[.agg #[.int .i64 (ofHn n), .int .i64 (ofHd n)], .int .i64 0]) (by simp [results, Try.results50, go_sem, r0, r1]) rfl ⟨by rw [HN.out, HD.out, HA0.out], hB⟩
  · obtain ⟨e1, e2⟩ := HE.out _ rfl hA0
    have HN := Lib.hid e1
    have HD := Lib.hid e2
    have hnb : (askedE rs ps [x] != 0) = true := by simp [hA0]
    clear e1 e2 hA0 HE HQ HG
    generalize hea : askedE rs ps [x] = ea at *
    have Hea := Lib.hid hea
    clear hea
    obtain ⟨r0, r1, hB⟩ := hd.put (.int .i64 0) (.int .i64 0)
    have k0 := hd.res.2 0 _ rfl
    have k1 := hd.res.2 1 _ rfl
    have kf := hd.fr0
    have kf1 := hd.fr1
    clear hd
    go_wp2_with fail
    exact bodyPost_ret (v := .tuple #[.agg #[.int .i64 0, .int .i64 0], .int .i64 ea]) (by simp [results, Try.results50, go_sem, r0, r1]) rfl ⟨by rw [HN.out, HD.out, Hea.out], hB⟩

def sRule : RuleL := ⟨⟨#[114]⟩, ⟨#[103, 111, 97, 108]⟩, ⟨#[]⟩, 1, 0, 1, 2⟩
def sStat : StatL := ⟨⟨#[103, 111, 97, 108]⟩, 3⟩
def sLine (v : Value) : LineL := ⟨⟨#[97]⟩, 1, v, [sStat]⟩
theorem s_asked (v : Value) : askedE [sRule] [] [sLine v] = 0 := by
  have h : lineE ⟨#[97]⟩ 1 [sStat] = 0 := by decide +kernel
  have h1 : rulesE [sRule] = 0 := by decide +kernel
  unfold askedE
  rw [if_neg (by rw [h1]; decide), if_neg (by decide +kernel)]
  unfold linesE
  exact firstErr_none (fun j h0 h1 => by
    obtain rfl : j = 0 := by simp at h1; omega
    exact h)
theorem s_pts : ptsV [sRule] [] [sStat] = 150 := by decide +kernel
theorem s_hn : ofHn 150 = 3 := by decide +kernel
theorem s_hd : ofHd 150 = 2 := by decide +kernel

set_option maxRecDepth 100000 in
set_option maxHeartbeats 2000000 in
theorem scored_any (w : World) : Calls Try.prog 21 #[] w fun e w' => e = .returned (.bool true) ∧ Below w.heap.size w w' := by
  go_enter Try.func21, Try.ntmps21
  go_wp2_with fail
  have hb1 := (Below.refl w.heap.size w).alloc (Nat.le_refl _) (.cells (encR sRule).toArray 86)
  have hb2 := (Below.refl (w.alloc (.cells (encR sRule).toArray 86)).heap.size (w.alloc (.cells (encR sRule).toArray 86))).alloc (Nat.le_refl _) (.cells (encT sStat).toArray 89)
  have hR := (CellsAt.new w (encR sRule).toArray 86).below hb2
  have hT := CellsAt.new (w.alloc (.cells (encR sRule).toArray 86)) (encT sStat).toArray 89
  have hsz : (w.alloc (.cells (encR sRule).toArray 86)).heap.size = w.heap.size + 1 := by simp
  rw [hsz] at hT
  have hall := hb1.trans (hb2.mono hb1.size)
  have hc := pub_any _ (.slice (some ⟨w.heap.size, 0, none⟩) 1 1) (.slice none 0 0) [sRule] [] (sLine (.slice (some ⟨w.heap.size + 1, 0, none⟩) 1 1)) (by
      intro r hr
      rw [List.mem_singleton.1 hr]
      exact ⟨by decide, by decide, by decide, by decide, by decide, by decide, by decide⟩) (by simp) ⟨by show (⟨#[97]⟩ : ByteArray).size ≤ _; decide, by
      intro t ht
      rw [List.mem_singleton.1 ht]
      show (⟨#[103, 111, 97, 108]⟩ : ByteArray).size ≤ _
      decide⟩
    ⟨rfl, .inr ⟨_, 0, 1, rfl, Nat.zero_le _, hR.1, Nat.le_refl _, by decide, fun i u hu => by rw [Nat.zero_add]; exact hR.2 i u hu⟩⟩ ⟨rfl, .inl ⟨rfl, rfl⟩⟩
    ⟨rfl, .inr ⟨_, 0, 1, rfl, Nat.zero_le _, hT.1, Nat.le_refl _, by decide, fun i u hu => by rw [Nat.zero_add]; exact hT.2 i u hu⟩⟩
  have e1 : pubN [sRule] [] (sLine (.slice (some ⟨w.heap.size + 1, 0, none⟩) 1 1)) = 3 := by
    unfold pubN; rw [if_pos (s_asked _)]; show ofHn (ptsV [sRule] [] [sStat]) = 3; rw [s_pts, s_hn]
  have e2 : pubD [sRule] [] (sLine (.slice (some ⟨w.heap.size + 1, 0, none⟩) 1 1)) = 2 := by
    unfold pubD; rw [if_pos (s_asked _)]; show ofHd (ptsV [sRule] [] [sStat]) = 2; rw [s_pts, s_hd]
  rw [e1, e2, s_asked] at hc
  have HC := Lib.hid hc
  clear hc e1 e2 hR hT hb1 hb2 hsz
  refine HC.out.mono ?_
  rintro e w1 ⟨rfl, hb⟩
  replace hall := hall.trans (hb.mono hall.size)
  clear hb HC
  go_wp2_with fail
  go_ret
  exact ⟨rfl, hall.alloc hall.size _⟩
end Go.Proofs.Ytnmdpphddimfbaa
/-
  The law BenchesSubbed: its walk from end to end. No condition.
-/
set_option linter.unusedVariables false
namespace Go.Proofs.Ytnmdpphddimfbaa
open Go.RowKit Go.Bw
theorem subE_ss {S : List SlD} {L : List ScD} {F : List FlD} {K : List ByteArray} (h : ssE S L ≠ 0) : subE S L F K = ssE S L := by
  have e := allE_ss (F := F) h
  unfold subE
  rw [e, if_pos h]
theorem subE_two {S : List SlD} {L : List ScD} {F : List FlD} {K : List ByteArray} (h : ssE S L = 0) : subE S L F K = err2 (fillsE S L F) (benchE L F K) := by
  have e := allE_fills (F := F) h
  unfold subE err2
  rw [e]
/-- The program's answer. -/
structure LF (n₀ : Nat) (w0 : World) (v4 : Value) (S : List SlD) (v5 : Value) (L : List ScD) (v6 : Value) (Fs : List FlD) (A6 : Nat) (v7 : Value) (ks : List ByteArray) (v8 : Value) (w : World) : Prop where
  e : LE n₀ w0 v4 S v5 L v6 Fs A6 v7 ks w
  r : Row w 0 2 v8 (subR S L Fs ks).length (cellsOf encFl (subR S L Fs ks))
/-- And the reference's. -/
structure LG (n₀ : Nat) (w0 : World) (v4 : Value) (S : List SlD) (v5 : Value) (L : List ScD) (v6 : Value) (Fs : List FlD) (A6 : Nat) (v7 : Value) (ks : List ByteArray) (v8 v11 : Value) (w : World) : Prop where
  f : LF n₀ w0 v4 S v5 L v6 Fs A6 v7 ks v8 w
  r : Row w 0 2 v11 (subR S L Fs ks).length (cellsOf encFl (subR S L Fs ks))
section
variable {n₀ A6 : Nat} {w0 w w' : World} {v4 v5 v6 v7 v8 v11 : Value} {S : List SlD} {L : List ScD} {Fs : List FlD} {ks : List ByteArray}
theorem LF.below (h : LF n₀ w0 v4 S v5 L v6 Fs A6 v7 ks v8 w) (g : Below w.heap.size w w') : LF n₀ w0 v4 S v5 L v6 Fs A6 v7 ks v8 w' := ⟨h.e.below g, h.r.below g⟩
theorem LG.below (h : LG n₀ w0 v4 S v5 L v6 Fs A6 v7 ks v8 v11 w) (g : Below w.heap.size w w') : LG n₀ w0 v4 S v5 L v6 Fs A6 v7 ks v8 v11 w' := ⟨h.f.below g, h.r.below g⟩
end
set_option maxRecDepth 100000 in
set_option maxHeartbeats 1000000 in
theorem lb6 (n₀ : Nat) (w0 : World) (v4 : Value) (S : List SlD) (v5 : Value) (L : List ScD) (v6 : Value) (Fs : List FlD) (A6 : Nat) (v7 : Value) (ks : List ByteArray) : T3 Try.prog (fun a w => (LE n₀ w0 v4 S v5 L v6 Fs A6 v7 ks w) ∧ Fr 93 [(4, v4), (5, v5), (6, .pointer (some ⟨A6, 0, none⟩)), (7, v7)] a) (sel [1, 1, 1, 1, 1, 0] lbM) (fun a w => ∃ (v8 : Value), (LF n₀ w0 v4 S v5 L v6 Fs A6 v7 ks v8 w) ∧ Fr 93 [(4, v4), (5, v5), (6, .pointer (some ⟨A6, 0, none⟩)), (7, v7), (8, v8), (9, .int .i64 (subE S L Fs ks))] a) No 9 No := by
  refine T3.leaf ?_
  rintro Q JS JX JT K hS hK hX hE hT hR a w ⟨hW, ⟨fr, rfl, q4, q5, q6, q7, _⟩⟩
  have HP := Lib.hid (subbed_prog w v4 v5 v6 v7 S L Fs ks hW.d.s hW.d.c hW.d.f hW.k)
  have a6 := hW.d.a6
  have HW := Lib.hid hW
  obtain ⟨p4, c4, e4⟩ := hW.d.s.r.shape
  subst e4
  obtain ⟨p5, c5, e5⟩ := hW.d.c.r.shape
  subst e5
  obtain ⟨p6, c6, e6⟩ := hW.d.f.r.shape
  subst e6
  obtain ⟨p7, c7, e7⟩ := hW.k.r.shape
  subst e7
  clear hW
  generalize hE1 : subE S L Fs ks = eP at *
  have HE1 := Lib.hid hE1
  clear hE1
  rw [fr_lbM, show fr 4 = _ from q4, show fr 5 = _ from q5, show fr 6 = _ from q6, show fr 7 = _ from q7]
  clear q4 q5 q6 q7
  conv => arg 2; whnf
  go_wp2_with fail
  refine HP.out.mono ?_
  rintro e w1 ⟨v8, rfl, ho, hb⟩
  have HR := Lib.hid (show LF n₀ w0 _ S _ L _ Fs A6 _ ks v8 w1 from ⟨HW.out.below hb, (Row.of_owns ho).mono (Nat.zero_le _)⟩)
  obtain ⟨p8, c8, e8⟩ := (Row.of_owns ho).shape
  subst e8
  clear ho hb a6
  go_wp2_with fail
  refine Met.intro (hS _ _ ?_)
  exact ⟨_, HR.out, Fr.of _ rfl ⟨rfl, rfl, rfl, rfl, rfl, rfl, trivial⟩⟩

set_option maxRecDepth 100000 in
set_option maxHeartbeats 1000000 in
theorem lb7 (n₀ : Nat) (w0 : World) (v4 : Value) (S : List SlD) (v5 : Value) (L : List ScD) (v6 : Value) (Fs : List FlD) (A6 : Nat) (v7 : Value) (ks : List ByteArray) (v8 : Value) : T3 Try.prog (fun a w => (LF n₀ w0 v4 S v5 L v6 Fs A6 v7 ks v8 w) ∧ Fr 93 [(4, v4), (5, v5), (6, .pointer (some ⟨A6, 0, none⟩)), (7, v7), (8, v8), (9, .int .i64 (subE S L Fs ks))] a) (sel [1, 1, 1, 1, 1, 1, 0] lbM) (fun a w => (LF n₀ w0 v4 S v5 L v6 Fs A6 v7 ks v8 w) ∧ Fr 93 [(4, v4), (5, v5), (6, .pointer (some ⟨A6, 0, none⟩)), (7, v7), (8, v8), (9, .int .i64 (subE S L Fs ks)), (10, .int .i64 (ssE S L))] a) No 9 No := by
  refine T3.leaf ?_
  rintro Q JS JX JT K hS hK hX hE hT hR a w ⟨hW, ⟨fr, rfl, q4, q5, q6, q7, q8, q9, _⟩⟩
  have HS := Lib.hid (slots_ref w v4 S hW.e.d.s)
  have HC := Lib.hid (fun w' (b : Below w.heap.size w w') => scorers_ref w' v5 L (hW.e.d.c.below b))
  have HQ := Lib.hid (show err2 (slotsE S) (scorersE L) = ssE S L from rfl)
  have HW := Lib.hid hW
  obtain ⟨p8, c8, e8⟩ := hW.r.shape
  subst e8
  obtain ⟨p4, c4, e4⟩ := hW.e.d.s.r.shape
  subst e4
  obtain ⟨p5, c5, e5⟩ := hW.e.d.c.r.shape
  subst e5
  obtain ⟨p6, c6, e6⟩ := hW.e.d.f.r.shape
  subst e6
  obtain ⟨p7, c7, e7⟩ := hW.e.k.r.shape
  subst e7
  clear hW
  generalize subE S L Fs ks = eP at *
  generalize ssE S L = eS at *
  generalize slotsE S = e1 at *
  generalize scorersE L = e2 at *
  rw [fr_lbM, show fr 4 = _ from q4, show fr 5 = _ from q5, show fr 6 = _ from q6, show fr 7 = _ from q7, show fr 8 = _ from q8, show fr 9 = _ from q9]
  clear q4 q5 q6 q7 q8 q9
  conv => arg 2; whnf
  go_wp2_with fail
  refine HS.out.mono ?_
  rintro e w1 ⟨rfl, hb⟩
  have B1 := Lib.hid hb
  clear hb
  go_wp2_with fail
  refine (HC.out w1 B1.out).mono ?_
  rintro e w2 ⟨rfl, hb⟩
  have B2 := Lib.hid (B1.out.trans (hb.mono B1.out.size))
  clear hb
  go_wp2_with fail
  refine (errs_two e1 e2 w2 _).mono ?_
  rw [HQ.out]
  rintro e w3 ⟨rfl, hb⟩
  have HR := Lib.hid (HW.out.below (B2.out.trans (hb.mono B2.out.size)))
  clear hb
  go_wp2_with fail
  refine Met.intro (hS _ _ ?_)
  exact ⟨HR.out, Fr.of _ rfl ⟨rfl, rfl, rfl, rfl, rfl, rfl, rfl, trivial⟩⟩

set_option maxRecDepth 100000 in
set_option maxHeartbeats 1000000 in
theorem lb8 (n₀ : Nat) (w0 : World) (v4 : Value) (S : List SlD) (v5 : Value) (L : List ScD) (v6 : Value) (Fs : List FlD) (A6 : Nat) (v7 : Value) (ks : List ByteArray) (v8 : Value) : T3 Try.prog (fun a w => (LF n₀ w0 v4 S v5 L v6 Fs A6 v7 ks v8 w) ∧ Fr 93 [(4, v4), (5, v5), (6, .pointer (some ⟨A6, 0, none⟩)), (7, v7), (8, v8), (9, .int .i64 (subE S L Fs ks)), (10, .int .i64 (ssE S L))] a) (sel [1, 1, 1, 1, 1, 1, 1, 0, 0] lbM) (fun a w => ∃ q, Fr 93 ((64, .bool q) :: [(4, v4), (5, v5), (6, .pointer (some ⟨A6, 0, none⟩)), (7, v7), (8, v8), (9, .int .i64 (subE S L Fs ks)), (10, .int .i64 (ssE S L))]) a ∧ ((q = (ssE S L == 0)) ∧ LF n₀ w0 v4 S v5 L v6 Fs A6 v7 ks v8 w)) No 9 No := by
  refine T3.leaf ?_
  rintro Q JS JX JT K hS hK hX hE hT hR a w ⟨hW, ⟨fr, rfl, q4, q5, q6, q7, q8, q9, q10, _⟩⟩
  have HW := Lib.hid hW
  obtain ⟨p8, c8, e8⟩ := hW.r.shape
  subst e8
  obtain ⟨p4, c4, e4⟩ := hW.e.d.s.r.shape
  subst e4
  obtain ⟨p5, c5, e5⟩ := hW.e.d.c.r.shape
  subst e5
  obtain ⟨p6, c6, e6⟩ := hW.e.d.f.r.shape
  subst e6
  obtain ⟨p7, c7, e7⟩ := hW.e.k.r.shape
  subst e7
  clear hW
  generalize subE S L Fs ks = eP at *
  generalize ssE S L = eS at *
  rw [fr_lbM, show fr 4 = _ from q4, show fr 5 = _ from q5, show fr 6 = _ from q6, show fr 7 = _ from q7, show fr 8 = _ from q8, show fr 9 = _ from q9, show fr 10 = _ from q10]
  clear q4 q5 q6 q7 q8 q9 q10
  conv => arg 2; whnf
  go_wp2_with fail
  refine Met.intro (hS _ _ ?_)
  exact ⟨_, Fr.of _ rfl ⟨rfl, rfl, rfl, rfl, rfl, rfl, rfl, rfl, trivial⟩, rfl, HW.out⟩

set_option maxRecDepth 100000 in
set_option maxHeartbeats 1000000 in
theorem lb9 (n₀ : Nat) (w0 : World) (v4 : Value) (S : List SlD) (v5 : Value) (L : List ScD) (v6 : Value) (Fs : List FlD) (A6 : Nat) (v7 : Value) (ks : List ByteArray) (v8 : Value) (hz : ssE S L = 0) : T3 Try.prog (fun a w => (LF n₀ w0 v4 S v5 L v6 Fs A6 v7 ks v8 w) ∧ Fr 93 [(4, v4), (5, v5), (6, .pointer (some ⟨A6, 0, none⟩)), (7, v7), (8, v8), (9, .int .i64 (subE S L Fs ks)), (10, .int .i64 (ssE S L))] a) (sel [1, 1, 1, 1, 1, 1, 1, 0, 1, 2] lbM) (fun a w => (LF n₀ w0 v4 S v5 L v6 Fs A6 v7 ks v8 w) ∧ Fr 93 [(4, v4), (5, v5), (6, .pointer (some ⟨A6, 0, none⟩)), (7, v7), (8, v8), (9, .int .i64 (subE S L Fs ks)), (10, .int .i64 (subE S L Fs ks))] a) No 9 No := by
  refine T3.leafN ?_
  rintro JS hS a w ⟨hW, ⟨fr, rfl, q4, q5, q6, q7, q8, q9, q10, _⟩⟩
  have hd : LF n₀ w0 v4 S v5 L v6 Fs A6 v7 ks v8 w.drew := hW.below (below_drewN (Below.refl _ _) 1)
  have a6 : w.cell? ⟨A6, 0, none⟩ = some v6 := hW.e.d.a6
  have HFl := Lib.hid (fills_ref w.drew v4 v5 v6 S L Fs hd.e.d.s hd.e.d.c hd.e.d.f)
  have HBn := Lib.hid (fun w' (b : Below w.drew.heap.size w.drew w') => bench_ref w' v5 v6 v7 L Fs ks (hd.e.d.c.below b) (hd.e.d.f.below b) (hd.e.k.below b))
  have HQ := Lib.hid (show err2 (fillsE S L Fs) (benchE L Fs ks) = subE S L Fs ks from (subE_two hz).symm)
  have HD := Lib.hid hd
  clear hd hz
  obtain ⟨p8, c8, e8⟩ := hW.r.shape
  subst e8
  obtain ⟨p4, c4, e4⟩ := hW.e.d.s.r.shape
  subst e4
  obtain ⟨p5, c5, e5⟩ := hW.e.d.c.r.shape
  subst e5
  obtain ⟨p6, c6, e6⟩ := hW.e.d.f.r.shape
  subst e6
  obtain ⟨p7, c7, e7⟩ := hW.e.k.r.shape
  subst e7
  clear hW
  generalize subE S L Fs ks = eP at *
  generalize fillsE S L Fs = e1 at *
  generalize benchE L Fs ks = e2 at *
  generalize ssE S L = eS at *
  rw [fr_lbM, show fr 4 = _ from q4, show fr 5 = _ from q5, show fr 6 = _ from q6, show fr 7 = _ from q7, show fr 8 = _ from q8, show fr 9 = _ from q9, show fr 10 = _ from q10]
  clear q4 q5 q6 q7 q8 q9 q10
  conv => arg 2; whnf
  refine wp_region_mix (none) [(true, 0), (true, 1), (true, 2), (true, 4), (true, 5), (true, 6), (false, 3), (false, 7), (false, 8), (false, 9), (true, 10)] (by kernel_rfl) (by kernel_rfl) (by intro c a d v w h; cases d <;> exact h) ?_
  simp only [pickFlat, List.filterMap_cons, List.filterMap_nil, List.getElem?_cons_succ, List.getElem?_cons_zero, Option.map_some]
  have A0 := wof_at (w₁ := w.drew) (row := none) (a := ⟨A6, 0, none⟩) a6 (by simp)
  refine flat_hide (fun W hH hC hN hE => ?_)
  iterate 6 (refine hH.out _ _ _ _ (fun K hK => ?_); go_simp; refine hK _ ?_; clear hK K)
  refine hC.out _ _ _ _ (by first | rfl | go_simp) (fun K hK => ?_)
  simp only [bare]
  go_wp2_with fail
  refine HFl.out.mono ?_
  rintro e w1 ⟨rfl, hb⟩
  have B1 := Lib.hid hb
  clear hb
  go_wp2_with fail
  refine hK.out _ _ (grown_of_below B1.out) ?_
  clear hK K
  refine hC.out _ _ _ _ (by first | rfl | go_simp) (fun K hK => ?_)
  simp only [bare]
  go_wp2_with fail
  refine (HBn.out w1 B1.out).mono ?_
  rintro e w2 ⟨rfl, hb⟩
  have B2 := Lib.hid (B1.out.trans (hb.mono B1.out.size))
  clear hb
  go_wp2_with fail
  refine hK.out _ _ (grown_of_below B2.out) ?_
  clear hK K
  refine hC.out _ _ _ _ (by first | rfl | go_simp) (fun K hK => ?_)
  simp only [bare]
  go_wp2_with fail
  refine hK.out _ _ (grown_of_below (B2.out.alloc B2.out.size _)) ?_
  clear hK K
  refine hC.out _ _ _ _ (by first | rfl | go_simp) (fun K hK => ?_)
  simp only [bare]
  go_wp2_with fail
  refine (errs_two e1 e2 w2 _).mono ?_
  rw [HQ.out]
  rintro e w3 ⟨rfl, hb⟩
  have B3 := Lib.hid (B2.out.trans (hb.mono B2.out.size))
  clear hb
  go_wp2_with fail
  refine hK.out _ _ (grown_of_below B3.out) ?_
  clear hK K
  iterate 1 (refine hH.out _ _ _ _ (fun K hK => ?_); go_simp; refine hK _ ?_; clear hK K)
  refine hE.out _ _ ?_
  clear hH hC hN hE W
  show JS _ _
  refine hS _ _ ?_
  exact ⟨HD.out.below B3.out, Fr.of _ rfl ⟨rfl, rfl, rfl, rfl, rfl, rfl, rfl, trivial⟩⟩

set_option maxRecDepth 100000 in
set_option maxHeartbeats 1000000 in
theorem lb10 (n₀ : Nat) (w0 : World) (v4 : Value) (S : List SlD) (v5 : Value) (L : List ScD) (v6 : Value) (Fs : List FlD) (A6 : Nat) (v7 : Value) (ks : List ByteArray) (v8 : Value) : T3 Try.prog (fun a w => (LF n₀ w0 v4 S v5 L v6 Fs A6 v7 ks v8 w) ∧ Fr 93 [(4, v4), (5, v5), (6, .pointer (some ⟨A6, 0, none⟩)), (7, v7), (8, v8), (9, .int .i64 (subE S L Fs ks)), (10, .int .i64 (subE S L Fs ks))] a) (sel [1, 1, 1, 1, 1, 1, 1, 1, 0] lbM) (fun a w => (LF n₀ w0 v4 S v5 L v6 Fs A6 v7 ks v8 w) ∧ Fr 93 [(4, v4), (5, v5), (6, .pointer (some ⟨A6, 0, none⟩)), (7, v7), (8, v8), (9, .int .i64 (subE S L Fs ks)), (10, .int .i64 (subE S L Fs ks)), (11, .slice none 0 0)] a) No 9 No := by
  refine T3.leaf ?_
  rintro Q JS JX JT K hS hK hX hE hT hR a w ⟨hW, ⟨fr, rfl, q4, q5, q6, q7, q8, q9, q10, _⟩⟩
  have HW := Lib.hid hW
  obtain ⟨p8, c8, e8⟩ := hW.r.shape
  subst e8
  obtain ⟨p4, c4, e4⟩ := hW.e.d.s.r.shape
  subst e4
  obtain ⟨p5, c5, e5⟩ := hW.e.d.c.r.shape
  subst e5
  obtain ⟨p6, c6, e6⟩ := hW.e.d.f.r.shape
  subst e6
  obtain ⟨p7, c7, e7⟩ := hW.e.k.r.shape
  subst e7
  clear hW
  generalize subE S L Fs ks = eP at *
  rw [fr_lbM, show fr 4 = _ from q4, show fr 5 = _ from q5, show fr 6 = _ from q6, show fr 7 = _ from q7, show fr 8 = _ from q8, show fr 9 = _ from q9, show fr 10 = _ from q10]
  clear q4 q5 q6 q7 q8 q9 q10
  conv => arg 2; whnf
  go_wp2_with fail
  refine Met.intro (hS _ _ ?_)
  exact ⟨HW.out, Fr.of _ rfl ⟨rfl, rfl, rfl, rfl, rfl, rfl, rfl, rfl, trivial⟩⟩

set_option maxRecDepth 100000 in
set_option maxHeartbeats 1000000 in
theorem lb11 (n₀ : Nat) (w0 : World) (v4 : Value) (S : List SlD) (v5 : Value) (L : List ScD) (v6 : Value) (Fs : List FlD) (A6 : Nat) (v7 : Value) (ks : List ByteArray) (v8 : Value) : T3 Try.prog (fun a w => (LF n₀ w0 v4 S v5 L v6 Fs A6 v7 ks v8 w) ∧ Fr 93 [(4, v4), (5, v5), (6, .pointer (some ⟨A6, 0, none⟩)), (7, v7), (8, v8), (9, .int .i64 (subE S L Fs ks)), (10, .int .i64 (subE S L Fs ks)), (11, .slice none 0 0)] a) (sel [1, 1, 1, 1, 1, 1, 1, 1, 1, 0, 0] lbM) (fun a w => ∃ q, Fr 93 ((76, .bool q) :: [(4, v4), (5, v5), (6, .pointer (some ⟨A6, 0, none⟩)), (7, v7), (8, v8), (9, .int .i64 (subE S L Fs ks)), (10, .int .i64 (subE S L Fs ks)), (11, .slice none 0 0)]) a ∧ ((q = (subE S L Fs ks == 0)) ∧ LF n₀ w0 v4 S v5 L v6 Fs A6 v7 ks v8 w)) No 9 No := by
  refine T3.leaf ?_
  rintro Q JS JX JT K hS hK hX hE hT hR a w ⟨hW, ⟨fr, rfl, q4, q5, q6, q7, q8, q9, q10, q11, _⟩⟩
  have HW := Lib.hid hW
  obtain ⟨p8, c8, e8⟩ := hW.r.shape
  subst e8
  obtain ⟨p4, c4, e4⟩ := hW.e.d.s.r.shape
  subst e4
  obtain ⟨p5, c5, e5⟩ := hW.e.d.c.r.shape
  subst e5
  obtain ⟨p6, c6, e6⟩ := hW.e.d.f.r.shape
  subst e6
  obtain ⟨p7, c7, e7⟩ := hW.e.k.r.shape
  subst e7
  clear hW
  generalize subE S L Fs ks = eP at *
  rw [fr_lbM, show fr 4 = _ from q4, show fr 5 = _ from q5, show fr 6 = _ from q6, show fr 7 = _ from q7, show fr 8 = _ from q8, show fr 9 = _ from q9, show fr 10 = _ from q10, show fr 11 = _ from q11]
  clear q4 q5 q6 q7 q8 q9 q10 q11
  conv => arg 2; whnf
  go_wp2_with fail
  refine Met.intro (hS _ _ ?_)
  exact ⟨_, Fr.of _ rfl ⟨rfl, rfl, rfl, rfl, rfl, rfl, rfl, rfl, rfl, trivial⟩, rfl, HW.out⟩

set_option maxRecDepth 100000 in
set_option maxHeartbeats 1000000 in
theorem lb12 (n₀ : Nat) (w0 : World) (v4 : Value) (S : List SlD) (v5 : Value) (L : List ScD) (v6 : Value) (Fs : List FlD) (A6 : Nat) (v7 : Value) (ks : List ByteArray) (v8 : Value) (g : SuG S L Fs ks) : T3 Try.prog (fun a w => (LF n₀ w0 v4 S v5 L v6 Fs A6 v7 ks v8 w) ∧ Fr 93 [(4, v4), (5, v5), (6, .pointer (some ⟨A6, 0, none⟩)), (7, v7), (8, v8), (9, .int .i64 (subE S L Fs ks)), (10, .int .i64 (subE S L Fs ks)), (11, .slice none 0 0)] a) (sel [1, 1, 1, 1, 1, 1, 1, 1, 1, 0, 1, 2] lbM) (fun a w => ∃ (v11 : Value), (LG n₀ w0 v4 S v5 L v6 Fs A6 v7 ks v8 v11 w) ∧ Fr 93 [(4, v4), (5, v5), (6, .pointer (some ⟨A6, 0, none⟩)), (7, v7), (8, v8), (9, .int .i64 (subE S L Fs ks)), (10, .int .i64 (subE S L Fs ks)), (11, v11)] a) No 9 No := by
  refine T3.leaf ?_
  rintro Q JS JX JT K hS hK hX hE hT hR a w ⟨hW, ⟨fr, rfl, q4, q5, q6, q7, q8, q9, q10, q11, _⟩⟩
  have HP := Lib.hid (subbed_ref w v4 v5 v6 v7 S L Fs ks hW.e.d.s hW.e.d.c hW.e.d.f hW.e.k g)
  have a6 := hW.e.d.a6
  clear g
  have HW := Lib.hid hW
  obtain ⟨p8, c8, e8⟩ := hW.r.shape
  subst e8
  obtain ⟨p4, c4, e4⟩ := hW.e.d.s.r.shape
  subst e4
  obtain ⟨p5, c5, e5⟩ := hW.e.d.c.r.shape
  subst e5
  obtain ⟨p6, c6, e6⟩ := hW.e.d.f.r.shape
  subst e6
  obtain ⟨p7, c7, e7⟩ := hW.e.k.r.shape
  subst e7
  clear hW
  generalize subE S L Fs ks = eP at *
  rw [fr_lbM, show fr 4 = _ from q4, show fr 5 = _ from q5, show fr 6 = _ from q6, show fr 7 = _ from q7, show fr 8 = _ from q8, show fr 9 = _ from q9, show fr 10 = _ from q10, show fr 11 = _ from q11]
  clear q4 q5 q6 q7 q8 q9 q10 q11
  conv => arg 2; whnf
  go_wp2_with fail
  refine HP.out.mono ?_
  rintro e w1 ⟨v11, rfl, ho, hb⟩
  have HR := Lib.hid (show LG n₀ w0 _ S _ L _ Fs A6 _ ks _ v11 w1 from ⟨HW.out.below hb, (Row.of_owns ho).mono (Nat.zero_le _)⟩)
  obtain ⟨p11, c11, e11⟩ := (Row.of_owns ho).shape
  subst e11
  clear ho hb a6
  go_wp2_with fail
  refine Met.intro (hS _ _ ?_)
  exact ⟨_, HR.out, Fr.of _ rfl ⟨rfl, rfl, rfl, rfl, rfl, rfl, rfl, rfl, trivial⟩⟩

theorem subR_len {S : List SlD} {L : List ScD} {F : List FlD} {K : List ByteArray} : (subR S L F K).length ≤ F.length := by
  unfold subR
  split
  · unfold subL
    rw [subK_length]
    exact Nat.le_refl _
  · exact Nat.zero_le _
set_option maxRecDepth 100000 in
set_option maxHeartbeats 1000000 in
theorem lb13 (n₀ : Nat) (w0 : World) (v4 : Value) (S : List SlD) (v5 : Value) (L : List ScD) (v6 : Value) (Fs : List FlD) (A6 : Nat) (v7 : Value) (ks : List ByteArray) (v8 : Value) (v11 : Value) : T3 Try.prog (fun a w => (LG n₀ w0 v4 S v5 L v6 Fs A6 v7 ks v8 v11 w) ∧ Fr 93 [(4, v4), (5, v5), (6, .pointer (some ⟨A6, 0, none⟩)), (7, v7), (8, v8), (9, .int .i64 (subE S L Fs ks)), (10, .int .i64 (subE S L Fs ks)), (11, v11)] a) (sel [1, 1, 1, 1, 1, 1, 1, 1, 1, 1, 0] lbM) (fun a w => (Below n₀ w0 w) ∧ Fr 93 [(2, .bool true)] a) No 9 No := by
  refine T3.leaf ?_
  rintro Q JS JX JT K hS hK hX hE hT hR a w ⟨hW, ⟨fr, rfl, q4, q5, q6, q7, q8, q9, q10, q11, _⟩⟩
  have HQ := Lib.hid (equal_fills v8 v11 _ _ 0 0 w hW.f.r hW.r (by have := subR_len (S := S) (L := L) (F := Fs) (K := ks); have := hW.f.e.d.f.n; omega))
  have HW := Lib.hid hW
  obtain ⟨p11, c11, e11⟩ := hW.r.shape
  subst e11
  obtain ⟨p8, c8, e8⟩ := hW.f.r.shape
  subst e8
  obtain ⟨p4, c4, e4⟩ := hW.f.e.d.s.r.shape
  subst e4
  obtain ⟨p5, c5, e5⟩ := hW.f.e.d.c.r.shape
  subst e5
  obtain ⟨p6, c6, e6⟩ := hW.f.e.d.f.r.shape
  subst e6
  obtain ⟨p7, c7, e7⟩ := hW.f.e.k.r.shape
  subst e7
  clear hW
  generalize subE S L Fs ks = eP at *
  generalize subR S L Fs ks = RR at *
  rw [fr_lbM, show fr 4 = _ from q4, show fr 5 = _ from q5, show fr 6 = _ from q6, show fr 7 = _ from q7, show fr 8 = _ from q8, show fr 9 = _ from q9, show fr 10 = _ from q10, show fr 11 = _ from q11]
  clear q4 q5 q6 q7 q8 q9 q10 q11
  conv => arg 2; whnf
  go_wp2_with fail
  refine HQ.out.mono ?_
  rintro e w1 ⟨rfl, hb⟩
  have HL := Lib.hid (HW.out.below hb)
  clear hb
  go_wp2_with fail
  refine (scored_any w1).mono ?_
  rintro e w2 ⟨rfl, hb⟩
  have HL2 := Lib.hid (HL.out.below hb)
  clear hb
  go_wp2_with fail
  refine Met.intro (hS _ _ ?_)
  exact ⟨HL2.out.f.e.bel, Fr.of _ rfl ⟨rfl, trivial⟩⟩

set_option maxRecDepth 100000 in
set_option maxHeartbeats 1000000 in
theorem lb_end (n₀ : Nat) (w0 : World) (v4 : Value) (S : List SlD) (v5 : Value) (L : List ScD) (v6 : Value) (Fs : List FlD) (A6 : Nat) (v7 : Value) (ks : List ByteArray) : T3 Try.prog (fun a w => (LE n₀ w0 v4 S v5 L v6 Fs A6 v7 ks w) ∧ Fr 93 [(4, v4), (5, v5), (6, .pointer (some ⟨A6, 0, none⟩)), (7, v7)] a) (sel [1, 1, 1, 1, 1] lbM) No No 9 (fun a w => Below n₀ w0 w ∧ Fr 93 [(2, .bool true)] a) := by
  refine T3.seq (s := (sel [1, 1, 1, 1, 1, 0] lbM)) (c := (sel [1, 1, 1, 1, 1, 1] lbM)) (T3.noT (lb6 n₀ w0 v4 S v5 L v6 Fs A6 v7 ks)) ?_
  refine T3.ex fun v8 => ?_
  refine T3.seq (s := (sel [1, 1, 1, 1, 1, 1, 0] lbM)) (c := (sel [1, 1, 1, 1, 1, 1, 1] lbM)) (T3.noT (lb7 n₀ w0 v4 S v5 L v6 Fs A6 v7 ks v8)) ?_
  refine T3.seq (s := (sel [1, 1, 1, 1, 1, 1, 1, 0] lbM)) (c := (sel [1, 1, 1, 1, 1, 1, 1, 1] lbM)) (S := fun a w => (LF n₀ w0 v4 S v5 L v6 Fs A6 v7 ks v8 w) ∧ Fr 93 [(4, v4), (5, v5), (6, .pointer (some ⟨A6, 0, none⟩)), (7, v7), (8, v8), (9, .int .i64 (subE S L Fs ks)), (10, .int .i64 (subE S L Fs ks))] a) ?_ ?_
  · refine T3.test (s := (sel [1, 1, 1, 1, 1, 1, 1, 0, 0] lbM)) (x := (sel [1, 1, 1, 1, 1, 1, 1, 0, 1, 2] lbM)) (y := .skip) (C := fun q => (q = (ssE S L == 0))) (W := fun w => LF n₀ w0 v4 S v5 L v6 Fs A6 v7 ks v8 w) (by decide) (T3.noT (lb8 n₀ w0 v4 S v5 L v6 Fs A6 v7 ks v8)) ?_ (T3.skip ?_)
    · refine T3.pre (R := fun a w => (ssE S L = 0) ∧ (LF n₀ w0 v4 S v5 L v6 Fs A6 v7 ks v8 w) ∧ Fr 93 [(4, v4), (5, v5), (6, .pointer (some ⟨A6, 0, none⟩)), (7, v7), (8, v8), (9, .int .i64 (subE S L Fs ks)), (10, .int .i64 (ssE S L))] a) (T3.pure fun hz => T3.noT (lb9 n₀ w0 v4 S v5 L v6 Fs A6 v7 ks v8 hz)) ?_
      rintro a w ⟨hF, hq, hW⟩
      exact ⟨by have := hq.symm; simpa using this, hW, hF.tail⟩
    · rintro a w ⟨hq, hW, hF⟩
      have hne : ssE S L ≠ 0 := by have := hq.symm; simpa using this
      rw [subE_ss hne] at hF ⊢
      exact ⟨hW, hF⟩
  refine T3.seq (s := (sel [1, 1, 1, 1, 1, 1, 1, 1, 0] lbM)) (c := (sel [1, 1, 1, 1, 1, 1, 1, 1, 1] lbM)) (T3.noT (lb10 n₀ w0 v4 S v5 L v6 Fs A6 v7 ks v8)) ?_
  refine T3.seq (s := (sel [1, 1, 1, 1, 1, 1, 1, 1, 1, 0] lbM)) (c := (sel [1, 1, 1, 1, 1, 1, 1, 1, 1, 1] lbM)) (S := fun a w => ∃ (v11 : Value), (LG n₀ w0 v4 S v5 L v6 Fs A6 v7 ks v8 v11 w) ∧ Fr 93 [(4, v4), (5, v5), (6, .pointer (some ⟨A6, 0, none⟩)), (7, v7), (8, v8), (9, .int .i64 (subE S L Fs ks)), (10, .int .i64 (subE S L Fs ks)), (11, v11)] a) ?_ (T3.ex fun v11 => ?_)
  · refine T3.test (s := (sel [1, 1, 1, 1, 1, 1, 1, 1, 1, 0, 0] lbM)) (x := (sel [1, 1, 1, 1, 1, 1, 1, 1, 1, 0, 1, 2] lbM)) (y := .skip) (C := fun q => (q = (subE S L Fs ks == 0))) (W := fun w => LF n₀ w0 v4 S v5 L v6 Fs A6 v7 ks v8 w) (by decide) (T3.noT (lb11 n₀ w0 v4 S v5 L v6 Fs A6 v7 ks v8)) ?_ (T3.skip ?_)
    · refine T3.pre (R := fun a w => (SuG S L Fs ks) ∧ (LF n₀ w0 v4 S v5 L v6 Fs A6 v7 ks v8 w) ∧ Fr 93 [(4, v4), (5, v5), (6, .pointer (some ⟨A6, 0, none⟩)), (7, v7), (8, v8), (9, .int .i64 (subE S L Fs ks)), (10, .int .i64 (subE S L Fs ks)), (11, .slice none 0 0)] a) (T3.pure fun g => T3.noT (lb12 n₀ w0 v4 S v5 L v6 Fs A6 v7 ks v8 g)) ?_
      rintro a w ⟨hF, hq, hW⟩
      have h0 : subE S L Fs ks = 0 := by have := hq.symm; simpa using this
      have ha : allE S L Fs = 0 := by
        by_cases e : allE S L Fs = 0
        · exact e
        · unfold subE at h0
          rw [if_pos e] at h0
          exact h0
      have hb : benchE L Fs ks = 0 := by
        unfold subE at h0
        rw [if_neg (by simp [ha])] at h0
        exact h0
      exact ⟨⟨ha, hb⟩, hW, hF.tail⟩
    · rintro a w ⟨hq, hW, hF⟩
      have hne : subE S L Fs ks ≠ 0 := by have := hq.symm; simpa using this
      refine ⟨_, ⟨hW, ?_⟩, hF⟩
      rw [subR_bad hne]
      exact ⟨rfl, .inl ⟨rfl, rfl⟩⟩
  exact T3.seq (s := (sel [1, 1, 1, 1, 1, 1, 1, 1, 1, 1, 0] lbM)) (c := .ret) (T3.noT (lb13 n₀ w0 v4 S v5 L v6 Fs A6 v7 ks v8 v11)) (T3.ret (fun a w q => q))

set_option maxRecDepth 100000 in
set_option maxHeartbeats 1000000 in
theorem benches_law (v : Value) (n : Nat) (zs : List Int) (w0 : World) (h : SRow w0 v n zs w0.heap.size) :
    Calls Try.prog 3 #[v] w0 fun e w' => e = .returned (.bool true) ∧ Below w0.heap.size w0 w' := by
  have hall : T3 Try.prog (fun a w => IsW w0 w ∧ Fr 93 [(0, v)] a) lbM No No 9 (fun a w => Below w0.heap.size w0 w ∧ Fr 93 [(2, .bool true)] a) := by
    refine T3.seq (s := (sel [0] lbM)) (c := (sel [1] lbM)) (T3.noT (lb0 v w0)) ?_
    refine T3.seq (s := (sel [1, 0] lbM)) (c := (sel [1, 1] lbM)) (T3.noT (lb1 v n zs w0 h)) ?_
    refine T3.seq (s := (sel [1, 1, 0] lbM)) (c := (sel [1, 1, 1] lbM)) (T3.noT (lb2 _ w0)) ?_
    refine T3.ex fun ws => T3.ex fun wc => T3.ex fun v4 => T3.ex fun S => T3.ex fun v5 => T3.ex fun L => T3.pure fun hn => ?_
    refine T3.seq (s := (sel [1, 1, 1, 0] lbM)) (c := (sel [1, 1, 1, 1] lbM)) (T3.noT (lb3 _ w0 ws wc v4 S v5 L hn)) ?_
    refine T3.ex fun M => T3.ex fun v6 => T3.ex fun Fs => T3.ex fun A6 => T3.ex fun v7 => T3.ex fun ks => ?_
    refine T3.seq (s := (sel [1, 1, 1, 1, 0] lbM)) (c := (sel [1, 1, 1, 1, 1] lbM)) (T3.noT (lb45 _ w0 M v4 S v5 L v6 Fs A6 v7 ks)) ?_
    refine T3.ex fun v7 => T3.ex fun ks => ?_
    exact lb_end _ w0 v4 S v5 L v6 Fs A6 v7 ks
  go_enter Try.func3, Try.ntmps3
  refine T3.done (s := lbM) hall ⟨rfl, Fr.of _ rfl ⟨rfl, trivial⟩⟩ ?_
  rintro a w ⟨hb, fr, rfl, q2, _⟩
  rw [fr_lbM, show fr 2 = _ from q2]
  go_ret
  exact ⟨rfl, hb⟩
end Go.Proofs.Ytnmdpphddimfbaa
