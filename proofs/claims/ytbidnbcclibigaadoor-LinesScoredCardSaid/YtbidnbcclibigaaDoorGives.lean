/-
  What a rule gives: the program's and the reference's reckoning. Conditions: the rule and the line are right.
-/
import Derived.Test.YtbidnbcclibigaaDoorRulesR
import Derived.Test.YtbidnbcclibigaaDoorCommon
namespace Go.Bw
open Go.RowKit
/-- The cells of block g read cs from its head on. -/
def CellsAt (w : World) (g : Nat) (cs : List Value) : Prop := g < w.heap.size ∧ ∀ j u, cs[j]? = some u → w.cell? ⟨g, j, none⟩ = some u
theorem CellsAt.below {w w' : World} {g : Nat} {cs : List Value} (h : CellsAt w g cs) (b : Below w.heap.size w w') : CellsAt w' g cs :=
  ⟨Nat.lt_of_lt_of_le h.1 b.size, fun j u hu => (b.cell (p := ⟨g, j, none⟩) h.1).trans (h.2 j u hu)⟩
theorem CellsAt.new (w : World) (cs : Array Value) (e : TypeId) : CellsAt (w.alloc (.cells cs e)) w.heap.size cs.toList := ⟨by simp, fun j u h => cells_new w cs e j u h⟩
def cntTo (l : List StatL) (nm : ByteArray) (k : Int) : Int := (l.take k.toNat).foldl (fun n t => if t.name = nm then t.count else n) 0
theorem cntTo_zero (l : List StatL) (nm : ByteArray) : cntTo l nm 0 = 0 := rfl
theorem cntTo_succ (l : List StatL) (nm : ByteArray) (k : Int) (h0 : 0 ≤ k) (h1 : k < l.length) : cntTo l nm (k + 1) = if (geta l k).name = nm then (geta l k).count else cntTo l nm k := by
  unfold cntTo
  rw [show (k + 1).toNat = k.toNat + 1 by omega, List.take_succ_eq_append_getElem (by omega), List.foldl_append, geta_eq l k h0 h1]
  rfl
theorem cntTo_le (l : List StatL) (nm : ByteArray) (hc : ∀ t ∈ l, -100000 ≤ t.count ∧ t.count ≤ 100000) (k : Int) (h0 : 0 ≤ k) (h1 : k ≤ l.length) : -100000 ≤ cntTo l nm k ∧ cntTo l nm k ≤ 100000 := by
  obtain ⟨m, rfl⟩ := Int.eq_ofNat_of_zero_le h0
  induction m with
  | zero => have := cntTo_zero l nm; simp at this ⊢; rw [this]; omega
  | succ m ih =>
    have hs := cntTo_succ l nm m (by omega) (by omega)
    rw [show ((m + 1 : Nat) : Int) = (m : Int) + 1 by omega, hs]
    split
    · exact hc _ (geta_mem (by omega) (by omega))
    · exact ih (by omega) (by omega)
end Go.Bw
namespace Go.Proofs.YtbidnbcclibigaaDoor
open Go.RowKit Go.Bw
/-- A rule that is right. -/
structure RuleGood (r : RuleL) : Prop where
  k0 : 1 ≤ r.kind
  k1 : r.kind ≤ 4
  m : (r.kind = 2 ∨ r.kind = 3) → 1 ≤ r.many ∧ r.many ≤ 100000
  d0 : 1 ≤ r.den
  d1 : r.den ≤ 100
  n0 : -1000000 ≤ r.num
  n1 : r.num ≤ 1000000
  h0 : -1000000 ≤ hund r.num r.den
  h1 : hund r.num r.den ≤ 1000000
theorem hund_le {num den : Int} (h0 : 1 ≤ den) (h : den ≤ 100) (h1 : -10000 * den ≤ num) (h2 : num ≤ 10000 * den) : -1000000 ≤ hund num den ∧ hund num den ≤ 1000000 := by
  unfold hund
  have hq0 : 0 ≤ 100 / den := Int.ediv_nonneg (by decide) (by omega)
  have hq : den * (100 / den) ≤ 100 := Int.mul_ediv_self_le (by omega)
  have a := Int.mul_le_mul_of_nonneg_right h1 hq0
  have b := Int.mul_le_mul_of_nonneg_right h2 hq0
  rw [Int.mul_assoc] at a b
  omega
theorem rule_good {l : List RuleL} (hz : ∀ r ∈ l, RuleOk r) (h : rulesE l = 0) : ∀ r ∈ l, RuleGood r := by
  intro r hr
  obtain ⟨i, hi, rfl⟩ := List.getElem_of_mem hr
  have h100 : ¬ 100 < l.length := by
    intro h100
    unfold rulesE at h
    rw [if_pos h100] at h
    cases h
  have hat : ruleAt l i = 0 := by
    unfold rulesE at h
    rw [if_neg h100] at h
    exact firstErr_zero h i (by omega) (by omega)
  have hg : geta l i = l[i] := geta_eq l i (by omega) (by omega)
  unfold ruleAt at hat
  rw [hg] at hat
  have e1 : kindB l[i] = false := by
    cases hk : kindB l[i]
    · rfl
    · rw [hk] at hat
      split at hat <;> (try split at hat) <;> simp_all
  have e2 : manyBad l[i] = false := by
    cases hk : manyBad l[i]
    · rfl
    · rw [hk] at hat
      split at hat <;> (try split at hat) <;> (try split at hat) <;> simp_all
  have e3 : amountE l[i].num l[i].den 10000 = 0 := by
    rw [e1, e2] at hat
    split at hat <;> (try split at hat) <;> simp_all
  have hk := out_no e1
  unfold amountE at e3
  have a1 : ¬ (l[i].den < 1 ∨ Int.gcd l[i].num l[i].den ≠ 1) := by
    intro h; rw [if_pos h] at e3; cases e3
  rw [if_neg a1] at e3
  have a2 : ¬ (100 % l[i].den ≠ 0 ∨ l[i].num < -10000 * l[i].den ∨ 10000 * l[i].den < l[i].num) := by
    intro h; rw [if_pos h] at e3; cases e3
  have hd1 : 1 ≤ l[i].den := by omega
  have hd0 : 100 % l[i].den = 0 := by omega
  have hd2 := den_le hd1 hd0
  have hh := hund_le (num := l[i].num) hd1 hd2 (by omega) (by omega)
  refine ⟨hk.1, hk.2, fun hm => ?_, hd1, hd2, by omega, by omega, hh.1, hh.2⟩
  have hm2 : many2 l[i] = true := by
    unfold many2
    rcases hm with hm | hm <;> simp [hm]
  unfold manyBad at e2
  rw [if_pos hm2] at e2
  exact out_no e2

def posBad (r : RuleL) (ps : List ByteArray) : Bool := decide (r.pos.size ≠ 0) && !hasS ps r.pos
def cnt (ts : List StatL) (nm : ByteArray) : Int := cntTo ts nm ts.length
theorem mul_b (h t : Int) (h0 : -1000000 ≤ h) (h1 : h ≤ 1000000) (t0 : -100000 ≤ t) (t1 : t ≤ 100000) : -100000000000 ≤ h * t ∧ h * t ≤ 100000000000 := by
  have a : (h * t).natAbs = h.natAbs * t.natAbs := Int.natAbs_mul h t
  have b : h.natAbs * t.natAbs ≤ 1000000 * 100000 := Nat.mul_le_mul (by omega) (by omega)
  omega
def timesV (r : RuleL) (n : Int) : Int := if r.kind = 1 then n else if r.kind = 2 then max n 0 / r.many else if r.kind = 3 then (if r.many ≤ n then 1 else 0) else if n = 0 then 1 else 0
theorem times_le (r : RuleL) (n : Int) (hm : (r.kind = 2 ∨ r.kind = 3) → 1 ≤ r.many ∧ r.many ≤ 100000) (h0 : -100000 ≤ n) (h1 : n ≤ 100000) : -100000 ≤ timesV r n ∧ timesV r n ≤ 100000 := by
  unfold timesV
  split
  · omega
  · split
    · rename_i h2
      have := hm (.inl h2)
      have a : 0 ≤ max n 0 / r.many := Int.ediv_nonneg (by omega) (by omega)
      have b : max n 0 / r.many ≤ max n 0 := Int.ediv_le_self _ (by omega)
      omega
    · split
      · split <;> omega
      · split <;> omega
def givesV (r : RuleL) (ps : List ByteArray) (ts : List StatL) : Int := if posBad r ps = true then 0 else hund r.num r.den * timesV r (cnt ts r.stat)

/-- What a call sees. -/
structure Gw (w0 : World) (r : RuleL) (pl : ByteArray) (wk : Int) (vt vp : Value) (ts : List StatL) (ps : List ByteArray) (g3 g5 : Nat) (w : World) : Prop where
  bel : Below w0.heap.size w0 w
  rc : CellsAt w g3 (encR r)
  lc : CellsAt w g5 [.string pl, .int .i64 wk, vt]
  tr : Row w 0 2 vt ts.length (cellsOf encT ts)
  pr : Row w 0 1 vp ps.length (cellsOf encS ps)
theorem Gw.below {w0 w w' : World} {r : RuleL} {pl : ByteArray} {wk : Int} {vt vp : Value} {ts : List StatL} {ps : List ByteArray} {g3 g5 : Nat} (h : Gw w0 r pl wk vt vp ts ps g3 g5 w) (b : Below w.heap.size w w') : Gw w0 r pl wk vt vp ts ps g3 g5 w' :=
  ⟨h.bel.trans (b.mono h.bel.size), h.rc.below b, h.lc.below b, h.tr.below b, h.pr.below b⟩
noncomputable def givesP : Code := (Tryd.f31.body).getD .skip
set_option maxRecDepth 100000 in
theorem frame76 (f : Nat → Value) : frame 76 f = ⟨#[f 0, f 1, f 2, f 3, f 4, f 5, f 6, f 7, f 8, f 9, f 10, f 11, f 12, f 13, f 14, f 15, f 16, f 17, f 18, f 19, f 20, f 21, f 22, f 23, f 24, f 25, f 26, f 27, f 28, f 29, f 30, f 31, f 32, f 33, f 34, f 35, f 36, f 37, f 38, f 39, f 40, f 41, f 42, f 43, f 44, f 45, f 46, f 47, f 48, f 49, f 50, f 51, f 52, f 53, f 54, f 55, f 56, f 57, f 58, f 59, f 60, f 61, f 62, f 63, f 64, f 65, f 66, f 67, f 68, f 69, f 70, f 71, f 72, f 73, f 74, f 75], []⟩ := by rfl
set_option maxRecDepth 100000 in
set_option maxHeartbeats 1000000 in
theorem gp_pos (w0 : World) (r : RuleL) (pl : ByteArray) (wk : Int) (vt vp : Value) (ts : List StatL) (ps : List ByteArray) (g3 g5 : Nat) (hr : RuleGood r) (hc : ∀ t ∈ ts, -100000 ≤ t.count ∧ t.count ≤ 100000) : T3 Tryd.prog (fun a w => True ∧ Gw w0 r pl wk vt vp ts ps g3 g5 w ∧ Fr 76 [(1, vp), (3, .pointer (some ⟨g3, 0, none⟩)), (5, .pointer (some ⟨g5, 0, none⟩))] a) (sel [1, 0, 0] givesP)
    (fun a w => ∃ q, Fr 76 ((21, .bool q) :: [(1, vp), (3, .pointer (some ⟨g3, 0, none⟩)), (5, .pointer (some ⟨g5, 0, none⟩))]) a ∧ ((q = posBad r ps) ∧ Gw w0 r pl wk vt vp ts ps g3 g5 w)) No 9
    (fun a w => Fr 76 [(6, .int .i64 (givesV r ps ts))] a ∧ Below w0.heap.size w0 w) := by
  refine T3.leaf ?_
  rintro Q JS JX JT K hS hK hX hE hT hR a w ⟨hC, hM, ⟨f, rfl, q1, q3, q5, _⟩⟩
  have HC := Lib.hid hC
  clear hC
  rw [frame76, show f 1 = vp from q1, show f 3 = .pointer (some ⟨g3, 0, none⟩) from q3, show f 5 = .pointer (some ⟨g5, 0, none⟩) from q5]
  clear q1 q3 q5
  conv => arg 2; whnf
  have c2 := hM.rc.2 2 _ rfl
  have Hp := Lib.hid (show posBad r ps = (decide (r.pos.size ≠ 0) && !hasS ps r.pos) from rfl)
  generalize r.pos = s2 at *
  by_cases h2 : s2.size = 0
  · have Hq := Lib.hid (show false = posBad r ps by rw [Hp.out]; simp [h2])
    have e2 := str_empty h2
    clear h2
    go_wp2_with fail
    refine Met.intro (hS _ _ ?_)
    exact ⟨false, Fr.of _ rfl ⟨rfl, rfl, rfl, rfl, trivial⟩, Hq.out, hM⟩
  · have e2 := str_full h2
    have e3 : (!s2.toList.isEmpty) = true := by rw [e2]; rfl
    have hb := (Below.refl w.heap.size w).alloc (Nat.le_refl _) (.cells #[.string s2] 9)
    have H1 := Lib.hid (common_any vp ps.length ps s2 0 w.heap.size _ (hM.pr.below hb) (cells_new w #[.string s2] 9 0 _ rfl))
    replace hM := hM.below hb
    clear hb
    have Hq := Lib.hid (show (!hasS ps s2) = posBad r ps by rw [Hp.out]; simp [h2])
    clear h2
    go_wp2_with fail
    generalize w.alloc (.cells #[.string s2] 9) = W at *
    refine H1.out.mono ?_
    rintro e w1 ⟨rfl, hb⟩
    replace hM := hM.below hb
    clear hb H1
    generalize hasS ps s2 = q at *
    cases q
    · go_wp2_with fail
      refine Met.intro (hS _ _ ?_)
      exact ⟨true, Fr.of _ rfl ⟨rfl, rfl, rfl, rfl, trivial⟩, Hq.out, hM⟩
    · go_wp2_with fail
      refine Met.intro (hS _ _ ?_)
      exact ⟨false, Fr.of _ rfl ⟨rfl, rfl, rfl, rfl, trivial⟩, Hq.out, hM⟩

set_option maxRecDepth 100000 in
set_option maxHeartbeats 1000000 in
theorem gp_none (w0 : World) (r : RuleL) (pl : ByteArray) (wk : Int) (vt vp : Value) (ts : List StatL) (ps : List ByteArray) (g3 g5 : Nat) (hr : RuleGood r) (hc : ∀ t ∈ ts, -100000 ≤ t.count ∧ t.count ≤ 100000) : T3 Tryd.prog (fun a w => Fr 76 ((21, .bool true) :: [(1, vp), (3, .pointer (some ⟨g3, 0, none⟩)), (5, .pointer (some ⟨g5, 0, none⟩))]) a ∧ (true = posBad r ps) ∧ Gw w0 r pl wk vt vp ts ps g3 g5 w) (sel [1, 0, 1, 2] givesP) No No 9 (fun a w => Fr 76 [(6, .int .i64 (givesV r ps ts))] a ∧ Below w0.heap.size w0 w) := by
  refine T3.leaf ?_
  rintro Q JS JX JT K hS hK hX hE hT hR a w ⟨⟨f, rfl, q21, q1, q3, q5, _⟩, hC, hM⟩
  have He := Lib.hid (show givesV r ps ts = 0 by unfold givesV; rw [if_pos hC.symm])
  have hb := hM.bel
  clear hC
  rw [frame76, show f 21 = .bool true from q21, show f 1 = vp from q1, show f 3 = .pointer (some ⟨g3, 0, none⟩) from q3, show f 5 = .pointer (some ⟨g5, 0, none⟩) from q5]
  clear q21 q1 q3 q5
  conv => arg 2; whnf
  go_wp2_with fail
  refine Met.intro (hT _ _ ?_)
  exact ⟨Fr.of _ rfl ⟨by rw [He.out]; rfl, trivial⟩, hb⟩

set_option maxRecDepth 100000 in
set_option maxHeartbeats 1000000 in
theorem gp_c0 (w0 : World) (r : RuleL) (pl : ByteArray) (wk : Int) (vt vp : Value) (ts : List StatL) (ps : List ByteArray) (g3 g5 : Nat) (hr : RuleGood r) (hc : ∀ t ∈ ts, -100000 ≤ t.count ∧ t.count ≤ 100000) : T3 Tryd.prog (fun a w => True ∧ Gw w0 r pl wk vt vp ts ps g3 g5 w ∧ Fr 76 [(1, vp), (3, .pointer (some ⟨g3, 0, none⟩)), (5, .pointer (some ⟨g5, 0, none⟩))] a) (sel [1, 1, 0] givesP)
    (fun a w => True ∧ Gw w0 r pl wk vt vp ts ps g3 g5 w ∧ Fr 76 [(7, .int .i64 0), (1, vp), (3, .pointer (some ⟨g3, 0, none⟩)), (5, .pointer (some ⟨g5, 0, none⟩))] a) No 9
    (fun a w => Fr 76 [(6, .int .i64 (givesV r ps ts))] a ∧ Below w0.heap.size w0 w) := by
  refine T3.leaf ?_
  rintro Q JS JX JT K hS hK hX hE hT hR a w ⟨hC, hM, ⟨f, rfl, q1, q3, q5, _⟩⟩
  have HC := Lib.hid hC
  clear hC
  rw [frame76, show f 1 = vp from q1, show f 3 = .pointer (some ⟨g3, 0, none⟩) from q3, show f 5 = .pointer (some ⟨g5, 0, none⟩) from q5]
  clear q1 q3 q5
  conv => arg 2; whnf
  go_wp2_with fail
  refine Met.intro (hS _ _ ?_)
  exact ⟨trivial, hM, Fr.of _ rfl ⟨rfl, rfl, rfl, rfl, trivial⟩⟩

def gpC (w0 : World) (r : RuleL) (pl : ByteArray) (wk : Int) (vt vp : Value) (ts : List StatL) (ps : List ByteArray) (g3 g5 : Nat) (k : Int) (a : Act) (w : World) : Prop := (0 ≤ k ∧ k ≤ ts.length) ∧ Gw w0 r pl wk vt vp ts ps g3 g5 w ∧ Fr 76 [(23, vt), (24, .int .i64 ts.length), (25, .int .i64 k), (7, .int .i64 (cntTo ts r.stat k)), (1, vp), (3, .pointer (some ⟨g3, 0, none⟩)), (5, .pointer (some ⟨g5, 0, none⟩))] a
set_option maxRecDepth 100000 in
set_option maxHeartbeats 1000000 in
theorem gp_c1 (w0 : World) (r : RuleL) (pl : ByteArray) (wk : Int) (vt vp : Value) (ts : List StatL) (ps : List ByteArray) (g3 g5 : Nat) (hr : RuleGood r) (hc : ∀ t ∈ ts, -100000 ≤ t.count ∧ t.count ≤ 100000) : T3 Tryd.prog (fun a w => True ∧ Gw w0 r pl wk vt vp ts ps g3 g5 w ∧ Fr 76 [(7, .int .i64 0), (1, vp), (3, .pointer (some ⟨g3, 0, none⟩)), (5, .pointer (some ⟨g5, 0, none⟩))] a) (sel [1, 1, 1, 0, 0] givesP)
    (gpC w0 r pl wk vt vp ts ps g3 g5 0) No 9
    (fun a w => Fr 76 [(6, .int .i64 (givesV r ps ts))] a ∧ Below w0.heap.size w0 w) := by
  refine T3.leaf ?_
  rintro Q JS JX JT K hS hK hX hE hT hR a w ⟨hC, hM, ⟨f, rfl, q7, q1, q3, q5, _⟩⟩
  have HC := Lib.hid hC
  clear hC
  rw [frame76, show f 7 = .int .i64 0 from q7, show f 1 = vp from q1, show f 3 = .pointer (some ⟨g3, 0, none⟩) from q3, show f 5 = .pointer (some ⟨g5, 0, none⟩) from q5]
  clear q7 q1 q3 q5
  conv => arg 2; whnf
  obtain ⟨p, c, hv⟩ := hM.tr.shape
  have c2 := hM.lc.2 2 _ rfl
  rw [hv] at c2
  go_wp2_with fail
  refine Met.intro (hS _ _ ?_)
  exact ⟨⟨by omega, by omega⟩, hM, Fr.of _ rfl ⟨hv.symm, rfl, rfl, rfl, rfl, rfl, rfl, trivial⟩⟩

set_option maxRecDepth 100000 in
set_option maxHeartbeats 1000000 in
theorem gp_cr (w0 : World) (r : RuleL) (pl : ByteArray) (wk : Int) (vt vp : Value) (ts : List StatL) (ps : List ByteArray) (g3 g5 : Nat) (hr : RuleGood r) (hc : ∀ t ∈ ts, -100000 ≤ t.count ∧ t.count ≤ 100000) (n : Nat) : T3 Tryd.prog (fun a w => ∃ k : Int, (n : Int) = ts.length - k ∧ gpC w0 r pl wk vt vp ts ps g3 g5 k a w) (sel [1, 1, 1, 0, 1, 4, 4] givesP)
    (fun a w => ∃ m, m < n ∧ ∃ k : Int, (m : Int) = ts.length - k ∧ gpC w0 r pl wk vt vp ts ps g3 g5 k a w) (gpC w0 r pl wk vt vp ts ps g3 g5 ts.length) 0
    (fun a w => Fr 76 [(6, .int .i64 (givesV r ps ts))] a ∧ Below w0.heap.size w0 w) := by
  refine T3.leaf ?_
  rintro Q JS JX JT K hS hK hX hE hT hR a w ⟨k, hn, ⟨hk0, hk1⟩, hM, ⟨f, rfl, q23, q24, q25, q7, q1, q3, q5, _⟩⟩
  rw [frame76, show f 23 = vt from q23, show f 24 = .int .i64 ts.length from q24, show f 25 = .int .i64 k from q25, show f 7 = .int .i64 (cntTo ts r.stat k) from q7, show f 1 = vp from q1, show f 3 = .pointer (some ⟨g3, 0, none⟩) from q3, show f 5 = .pointer (some ⟨g5, 0, none⟩) from q5]
  clear q23 q24 q25 q7 q1 q3 q5
  conv => arg 2; whnf
  have HS := Lib.hid hS
  have HX := Lib.hid hX
  clear hS hX
  by_cases hlt : k < ts.length
  · obtain ⟨_, hcs⟩ := hM.tr.els encT_length (by decide)
    rcases hcs with ⟨_, h0⟩ | ⟨b, off, cap, hv, _, hbs, hnc, hcm, hcell⟩
    · omega
    have t0 := hcell k hk0 hlt 0 _ rfl
    have t1 := hcell k hk0 hlt 1 _ rfl
    rw [Nat.add_zero] at t0
    have Hs := Lib.hid (cntTo_succ ts r.stat k hk0 hlt)
    have Hv := Lib.hid hv
    rw [hv]
    have hb := (Below.refl w.heap.size w).alloc (Nat.le_refl _) (.cells (encT (geta ts k)).toArray 74)
    replace hM := hM.below hb
    have c1 := hM.rc.2 1 _ rfl
    clear hv hcell hb
    unfold encT at hM c1
    generalize (geta ts k).name = s1 at *
    generalize (geta ts k).count = n1 at *
    generalize hs2 : r.stat = s2 at *
    have Hse := Lib.hid hs2
    clear hs2
    go_upto_region 7 with fail
    have d0 := cells_new w #[.string s1, .int .i64 n1] 74 0 _ rfl
    have d1 := cells_new w #[.string s1, .int .i64 n1] 74 1 _ rfl
    change Gw _ _ _ _ _ _ _ _ _ _ (w.alloc (.cells #[.string s1, .int .i64 n1] 74)) at hM
    change (w.alloc (.cells #[.string s1, .int .i64 n1] 74)).cell? _ = _ at c1
    generalize w.alloc (.cells #[.string s1, .int .i64 n1] 74) = W at *
    generalize w.heap.size = g at *
    clear t0 t1
    generalize cntTo ts s2 k = m at *
    by_cases hq : s1 = s2
    · subst hq
      have Hs2 := Lib.hid (show cntTo ts s1 (k + 1) = n1 by rw [Hs.out, if_pos rfl])
      clear Hs
      go_wp2_with fail
      refine Met.intro (HS.out _ _ ?_)
      exact ⟨n - 1, by omega, k + 1, by omega, ⟨by omega, by omega⟩, hM, Fr.of _ rfl ⟨Hv.out.symm, rfl, rfl, by rw [Hse.out, Hs2.out]; rfl, rfl, rfl, rfl, trivial⟩⟩
    · have hqb := toList_ne hq
      have Hs2 := Lib.hid (show cntTo ts s2 (k + 1) = m by rw [Hs.out, if_neg hq])
      clear Hs
      go_wp2_with fail
      refine Met.intro (HS.out _ _ ?_)
      exact ⟨n - 1, by omega, k + 1, by omega, ⟨by omega, by omega⟩, hM, Fr.of _ rfl ⟨Hv.out.symm, rfl, rfl, by rw [Hse.out, Hs2.out]; rfl, rfl, rfl, rfl, trivial⟩⟩
  · have hk : k = ts.length := by omega
    subst hk
    go_wp2_with fail
    refine hE _ _ (Met.intro (HX.out _ _ ?_))
    exact ⟨⟨hk0, hk1⟩, hM, Fr.of _ rfl ⟨rfl, rfl, rfl, rfl, rfl, rfl, rfl, trivial⟩⟩

set_option maxRecDepth 100000 in
set_option maxHeartbeats 1000000 in
theorem gp_cnt (w0 : World) (r : RuleL) (pl : ByteArray) (wk : Int) (vt vp : Value) (ts : List StatL) (ps : List ByteArray) (g3 g5 : Nat) (hr : RuleGood r) (hc : ∀ t ∈ ts, -100000 ≤ t.count ∧ t.count ≤ 100000) : T3 Tryd.prog (gpC w0 r pl wk vt vp ts ps g3 g5 0) (sel [1, 1, 1, 0, 1] givesP) (gpC w0 r pl wk vt vp ts ps g3 g5 ts.length) No 9 (fun a w => Fr 76 [(6, .int .i64 (givesV r ps ts))] a ∧ Below w0.heap.size w0 w) := by
  refine T3.loop (c := (sel [1, 1, 1, 0, 1, 4, 4] givesP)) (fun n a w => ∃ k : Int, (n : Int) = ts.length - k ∧ gpC w0 r pl wk vt vp ts ps g3 g5 k a w) (fun a w h => ⟨ts.length, 0, by omega, h⟩) (fun n => gp_cr w0 r pl wk vt vp ts ps g3 g5 hr hc n)

set_option maxRecDepth 100000 in
set_option maxHeartbeats 1000000 in
theorem gp_worth (w0 : World) (r : RuleL) (pl : ByteArray) (wk : Int) (vt vp : Value) (ts : List StatL) (ps : List ByteArray) (g3 g5 : Nat) (hr : RuleGood r) (hc : ∀ t ∈ ts, -100000 ≤ t.count ∧ t.count ≤ 100000) : T3 Tryd.prog (fun a w => True ∧ Gw w0 r pl wk vt vp ts ps g3 g5 w ∧ Fr 76 [(7, .int .i64 (cnt ts r.stat)), (1, vp), (3, .pointer (some ⟨g3, 0, none⟩)), (5, .pointer (some ⟨g5, 0, none⟩))] a) (sel [1, 1, 1, 1, 0] givesP)
    (fun a w => True ∧ Gw w0 r pl wk vt vp ts ps g3 g5 w ∧ Fr 76 [(10, .int .i64 (hund r.num r.den)), (7, .int .i64 (cnt ts r.stat)), (1, vp), (3, .pointer (some ⟨g3, 0, none⟩)), (5, .pointer (some ⟨g5, 0, none⟩))] a) No 9
    (fun a w => Fr 76 [(6, .int .i64 (givesV r ps ts))] a ∧ Below w0.heap.size w0 w) := by
  refine T3.leaf ?_
  rintro Q JS JX JT K hS hK hX hE hT hR a w ⟨hC, hM, ⟨f, rfl, q7, q1, q3, q5, _⟩⟩
  have HC := Lib.hid hC
  clear hC
  rw [frame76, show f 7 = .int .i64 (cnt ts r.stat) from q7, show f 1 = vp from q1, show f 3 = .pointer (some ⟨g3, 0, none⟩) from q3, show f 5 = .pointer (some ⟨g5, 0, none⟩) from q5]
  clear q7 q1 q3 q5
  conv => arg 2; whnf
  have hn0 := hr.n0
  have hn1 := hr.n1
  have hd0 := hr.d0
  have hd1 := hr.d1
  have c5 := hM.rc.2 5 _ rfl
  have c6 := hM.rc.2 6 _ rfl
  generalize cnt ts r.stat = m at *
  generalize r.num = n1 at *
  generalize r.den = n2 at *
  go_wp2_with (go_at_call 50; refine (hundredths_prog n1 n2 _ (by omega) (by omega) hd0 (by omega)).mono ?_; rintro e w1 ⟨rfl, hb⟩; replace hM := hM.below hb; clear hb)
  refine Met.intro (hS _ _ ?_)
  exact ⟨trivial, hM, Fr.of _ rfl ⟨rfl, rfl, rfl, rfl, rfl, trivial⟩⟩

set_option maxRecDepth 100000 in
set_option maxHeartbeats 1000000 in
theorem gp_sw (w0 : World) (r : RuleL) (pl : ByteArray) (wk : Int) (vt vp : Value) (ts : List StatL) (ps : List ByteArray) (g3 g5 : Nat) (hr : RuleGood r) (hc : ∀ t ∈ ts, -100000 ≤ t.count ∧ t.count ≤ 100000) (hp : posBad r ps = false) : T3 Tryd.prog (fun a w => True ∧ Gw w0 r pl wk vt vp ts ps g3 g5 w ∧ Fr 76 [(10, .int .i64 (hund r.num r.den)), (7, .int .i64 (cnt ts r.stat)), (1, vp), (3, .pointer (some ⟨g3, 0, none⟩)), (5, .pointer (some ⟨g5, 0, none⟩))] a) (sel [1, 1, 1, 1, 1] givesP) No No 9 (fun a w => Fr 76 [(6, .int .i64 (givesV r ps ts))] a ∧ Below w0.heap.size w0 w) := by
  refine T3.leaf ?_
  rintro Q JS JX JT K hS hK hX hE hT hR a w ⟨hC, hM, ⟨f, rfl, q10, q7, q1, q3, q5, _⟩⟩
  have Hv := Lib.hid (show givesV r ps ts = hund r.num r.den * timesV r (cnt ts r.stat) by unfold givesV; rw [if_neg (by rw [hp]; decide)])
  have hcb := cntTo_le ts r.stat hc ts.length (by omega) (by omega)
  change -100000 ≤ cnt ts r.stat ∧ cnt ts r.stat ≤ 100000 at hcb
  have hb := hM.bel
  have hk0 := hr.k0
  have hk1 := hr.k1
  have hm := hr.m
  have hh0 := hr.h0
  have hh1 := hr.h1
  have c3 := hM.rc.2 3 _ rfl
  have c4 := hM.rc.2 4 _ rfl
  rw [frame76, show f 10 = .int .i64 (hund r.num r.den) from q10, show f 7 = .int .i64 (cnt ts r.stat) from q7, show f 1 = vp from q1, show f 3 = .pointer (some ⟨g3, 0, none⟩) from q3, show f 5 = .pointer (some ⟨g5, 0, none⟩) from q5]
  clear q10 q7 q1 q3 q5
  conv => arg 2; whnf
  generalize hund r.num r.den = h at *
  generalize cnt ts r.stat = m at *
  have Ht := Lib.hid (show timesV r m = if r.kind = 1 then m else if r.kind = 2 then max m 0 / r.many else if r.kind = 3 then (if r.many ≤ m then 1 else 0) else if m = 0 then 1 else 0 from rfl)
  generalize r.kind = kd at *
  generalize r.many = mn at *
  have hkd : kd = 1 ∨ kd = 2 ∨ kd = 3 ∨ kd = 4 := by omega
  clear hp hk0 hk1
  rcases hkd with rfl | rfl | rfl | rfl
  · have HE := Lib.hid (show givesV r ps ts = h * m by rw [Hv.out, Ht.out, if_pos rfl])
    have hbb := mul_b h m hh0 hh1 hcb.1 hcb.2
    clear hm
    go_wp2_with fail
    refine Met.intro (hT _ _ ?_)
    exact ⟨Fr.of _ rfl ⟨by rw [HE.out]; rfl, trivial⟩, hb⟩
  · have hm := hm (.inl rfl)
    have HE := Lib.hid (show givesV r ps ts = h * (max m 0 / mn) by rw [Hv.out, Ht.out, if_neg (by decide), if_pos rfl])
    have hq0 : 0 ≤ max m 0 / mn := Int.ediv_nonneg (by omega) (by omega)
    have hq1 : max m 0 / mn ≤ max m 0 := Int.ediv_le_self _ (by omega)
    have hbb := mul_b h (max m 0 / mn) hh0 hh1 (by omega) (by omega)
    have hmz : (mn == 0) = false := by simp; omega
    go_wp2_with fail
    refine Met.intro (hT _ _ ?_)
    exact ⟨Fr.of _ rfl ⟨by rw [HE.out]; rfl, trivial⟩, hb⟩
  · have hm := hm (.inr rfl)
    by_cases hge : mn ≤ m
    · have HE := Lib.hid (show givesV r ps ts = h by rw [Hv.out, Ht.out, if_neg (by decide), if_neg (by decide), if_pos rfl, if_pos hge, Int.mul_one])
      go_wp2_with fail
      refine Met.intro (hT _ _ ?_)
      exact ⟨Fr.of _ rfl ⟨by rw [HE.out]; rfl, trivial⟩, hb⟩
    · have HE := Lib.hid (show givesV r ps ts = 0 by rw [Hv.out, Ht.out, if_neg (by decide), if_neg (by decide), if_pos rfl, if_neg hge, Int.mul_zero])
      have hgd : decide (mn ≤ m) = false := by simp; omega
      go_wp2_with fail
      refine Met.intro (hT _ _ ?_)
      exact ⟨Fr.of _ rfl ⟨by rw [HE.out]; rfl, trivial⟩, hb⟩
  · clear hm
    by_cases hz : m = 0
    · have HE := Lib.hid (show givesV r ps ts = h by rw [Hv.out, Ht.out, if_neg (by decide), if_neg (by decide), if_neg (by decide), if_pos hz, Int.mul_one])
      have hzb : (m == 0) = true := by simp [hz]
      clear hz
      go_wp2_with fail
      refine Met.intro (hT _ _ ?_)
      exact ⟨Fr.of _ rfl ⟨by rw [HE.out]; rfl, trivial⟩, hb⟩
    · have HE := Lib.hid (show givesV r ps ts = 0 by rw [Hv.out, Ht.out, if_neg (by decide), if_neg (by decide), if_neg (by decide), if_neg hz, Int.mul_zero])
      have hzb : (m == 0) = false := by simp [hz]
      clear hz
      go_wp2_with fail
      refine Met.intro (hT _ _ ?_)
      exact ⟨Fr.of _ rfl ⟨by rw [HE.out]; rfl, trivial⟩, hb⟩

set_option maxRecDepth 100000 in
set_option maxHeartbeats 1000000 in
theorem gp_all (w0 : World) (r : RuleL) (pl : ByteArray) (wk : Int) (vt vp : Value) (ts : List StatL) (ps : List ByteArray) (g3 g5 : Nat) (hr : RuleGood r) (hc : ∀ t ∈ ts, -100000 ≤ t.count ∧ t.count ≤ 100000) : T3 Tryd.prog (fun a w => True ∧ Gw w0 r pl wk vt vp ts ps g3 g5 w ∧ Fr 76 [(1, vp), (3, .pointer (some ⟨g3, 0, none⟩)), (5, .pointer (some ⟨g5, 0, none⟩))] a) (sel [1] givesP) No No 9 (fun a w => Fr 76 [(6, .int .i64 (givesV r ps ts))] a ∧ Below w0.heap.size w0 w) := by
  cases hp : posBad r ps
  · refine T3.seq (s := (sel [1, 0] givesP)) (c := (sel [1, 1] givesP)) (T3.test (s := (sel [1, 0, 0] givesP)) (x := (sel [1, 0, 1, 2] givesP)) (y := .skip) (l := [(1, vp), (3, .pointer (some ⟨g3, 0, none⟩)), (5, .pointer (some ⟨g5, 0, none⟩))]) (C := fun q => q = posBad r ps) (W := Gw w0 r pl wk vt vp ts ps g3 g5) (by decide) (gp_pos w0 r pl wk vt vp ts ps g3 g5 hr hc) (T3.noS (gp_none w0 r pl wk vt vp ts ps g3 g5 hr hc)) (T3.skip (fun a w q => q))) ?_
    refine T3.seq (s := (sel [1, 1, 0] givesP)) (c := (sel [1, 1, 1] givesP)) ((gp_c0 w0 r pl wk vt vp ts ps g3 g5 hr hc).pre (fun a w q => ⟨trivial, q.2⟩)) ?_
    refine T3.seq (s := (sel [1, 1, 1, 0] givesP)) (c := (sel [1, 1, 1, 1] givesP)) (T3.seq (s := (sel [1, 1, 1, 0, 0] givesP)) (c := (sel [1, 1, 1, 0, 1] givesP)) (gp_c1 w0 r pl wk vt vp ts ps g3 g5 hr hc) (gp_cnt w0 r pl wk vt vp ts ps g3 g5 hr hc)) ?_
    refine T3.seq (s := (sel [1, 1, 1, 1, 0] givesP)) (c := (sel [1, 1, 1, 1, 1] givesP)) ((gp_worth w0 r pl wk vt vp ts ps g3 g5 hr hc).pre (fun a w q => ⟨trivial, q.2.1, q.2.2.sub (by intro p hp; simp at hp ⊢; rcases hp with h | h | h | h <;> simp [h, cnt])⟩)) ?_
    exact gp_sw w0 r pl wk vt vp ts ps g3 g5 hr hc hp
  · refine T3.seq (s := (sel [1, 0] givesP)) (c := (sel [1, 1] givesP)) (T3.test (s := (sel [1, 0, 0] givesP)) (x := (sel [1, 0, 1, 2] givesP)) (y := .skip) (l := [(1, vp), (3, .pointer (some ⟨g3, 0, none⟩)), (5, .pointer (some ⟨g5, 0, none⟩))]) (C := fun q => q = posBad r ps) (W := Gw w0 r pl wk vt vp ts ps g3 g5) (by decide) (gp_pos w0 r pl wk vt vp ts ps g3 g5 hr hc) (T3.noS (gp_none w0 r pl wk vt vp ts ps g3 g5 hr hc)) (T3.skip (fun a w q => q))) ?_
    intro a w q
    rw [hp] at q
    cases q.1

set_option maxRecDepth 100000 in
set_option maxHeartbeats 1000000 in
theorem gives_prog (w0 : World) (r : RuleL) (pl : ByteArray) (wk : Int) (vt vp : Value) (ts : List StatL) (ps : List ByteArray) (hr : RuleGood r) (hc : ∀ t ∈ ts, -100000 ≤ t.count ∧ t.count ≤ 100000)
    (htr : Row w0 0 2 vt ts.length (cellsOf encT ts)) (hpr : Row w0 0 1 vp ps.length (cellsOf encS ps)) :
    Calls Tryd.prog 31 #[.agg #[.string r.key, .string r.stat, .string r.pos, .int .i64 r.kind, .int .i64 r.many, .int .i64 r.num, .int .i64 r.den], vp, .agg #[.string pl, .int .i64 wk, vt]] w0 fun e w' =>
      e = .returned (.int .i64 (givesV r ps ts)) ∧ Below w0.heap.size w0 w' := by
  have hb1 := (Below.refl w0.heap.size w0).alloc (Nat.le_refl _) (.cells (encR r).toArray 57)
  have hb2 := (Below.refl (w0.alloc (.cells (encR r).toArray 57)).heap.size (w0.alloc (.cells (encR r).toArray 57))).alloc (Nat.le_refl _) (.cells #[.string pl, .int .i64 wk, vt] 32)
  have hM : Gw w0 r pl wk vt vp ts ps w0.heap.size (w0.alloc (.cells (encR r).toArray 57)).heap.size ((w0.alloc (.cells (encR r).toArray 57)).alloc (.cells #[.string pl, .int .i64 wk, vt] 32)) :=
    ⟨hb1.trans (hb2.mono hb1.size), (CellsAt.new w0 (encR r).toArray _).below hb2, CellsAt.new _ _ _, (htr.below hb1).below hb2, (hpr.below hb1).below hb2⟩
  have HM := Lib.hid hM
  obtain ⟨p1, c1, hv1⟩ := htr.shape
  obtain ⟨p2, c2, hv2⟩ := hpr.shape
  subst hv1
  subst hv2
  unfold encR at HM
  have hsz : (w0.alloc (.cells (encR r).toArray 57)).heap.size = w0.heap.size + 1 := by simp
  unfold encR at hsz
  rw [hsz] at HM
  clear hM hb1 hb2 hsz
  go_enter Tryd.func31, Tryd.ntmps31
  refine T3.done (P := Tryd.prog) (s := givesP) (R := fun a w => w = w0 ∧ Fr 76 [(0, .agg #[.string r.key, .string r.stat, .string r.pos, .int .i64 r.kind, .int .i64 r.many, .int .i64 r.num, .int .i64 r.den]), (1, .slice p2 ps.length c2), (2, .agg #[.string pl, .int .i64 wk, .slice p1 ts.length c1])] a)
    (T3.seq (s := (sel [0] givesP)) (c := (sel [1] givesP)) ?_ (gp_all w0 r pl wk (.slice p1 ts.length c1) (.slice p2 ps.length c2) ts ps w0.heap.size (w0.heap.size + 1) hr hc)) ⟨rfl, Fr.of _ rfl ⟨rfl, rfl, rfl, trivial⟩⟩ ?_
  · refine T3.leaf ?_
    rintro Q JS JX JT K hS hK hX hE hT hR a w ⟨hw, ⟨f, rfl, q0, q1, q2, _⟩⟩
    subst hw
    rw [frame76, show f 0 = _ from q0, show f 1 = _ from q1, show f 2 = _ from q2]
    clear q0 q1 q2
    conv => arg 2; whnf
    go_wp2_with fail
    refine Met.intro (hS _ _ ?_)
    exact ⟨trivial, HM.out, Fr.of _ rfl ⟨rfl, rfl, rfl, trivial⟩⟩
  · rintro a w ⟨⟨f, rfl, q6, _⟩, hb⟩
    rw [frame76, show f 6 = _ from q6]
    go_ret
    exact ⟨rfl, hb⟩

noncomputable def worthR : Code := (Tryd.f38.body).getD .skip
set_option maxRecDepth 100000 in
theorem frame78 (f : Nat → Value) : frame 78 f = ⟨#[f 0, f 1, f 2, f 3, f 4, f 5, f 6, f 7, f 8, f 9, f 10, f 11, f 12, f 13, f 14, f 15, f 16, f 17, f 18, f 19, f 20, f 21, f 22, f 23, f 24, f 25, f 26, f 27, f 28, f 29, f 30, f 31, f 32, f 33, f 34, f 35, f 36, f 37, f 38, f 39, f 40, f 41, f 42, f 43, f 44, f 45, f 46, f 47, f 48, f 49, f 50, f 51, f 52, f 53, f 54, f 55, f 56, f 57, f 58, f 59, f 60, f 61, f 62, f 63, f 64, f 65, f 66, f 67, f 68, f 69, f 70, f 71, f 72, f 73, f 74, f 75, f 76, f 77], []⟩ := by rfl
set_option maxRecDepth 100000 in
set_option maxHeartbeats 1000000 in
theorem gr_pos (w0 : World) (r : RuleL) (pl : ByteArray) (wk : Int) (vt vp : Value) (ts : List StatL) (ps : List ByteArray) (g3 g5 : Nat) (hr : RuleGood r) (hc : ∀ t ∈ ts, -100000 ≤ t.count ∧ t.count ≤ 100000) : T3 Tryd.prog (fun a w => True ∧ Gw w0 r pl wk vt vp ts ps g3 g5 w ∧ Fr 78 [(7, .int .i64 (cnt ts r.stat)), (10, .int .i64 0), (1, vp), (3, .pointer (some ⟨g3, 0, none⟩)), (5, .pointer (some ⟨g5, 0, none⟩))] a) (sel [1, 1, 1, 1, 0, 4, 0] worthR)
    (fun a w => ∃ q, Fr 78 ((26, .bool q) :: [(7, .int .i64 (cnt ts r.stat)), (10, .int .i64 0), (1, vp), (3, .pointer (some ⟨g3, 0, none⟩)), (5, .pointer (some ⟨g5, 0, none⟩))]) a ∧ ((q = posBad r ps) ∧ Gw w0 r pl wk vt vp ts ps g3 g5 w)) No 9
    (fun a w => Fr 78 [(6, .int .i64 (givesV r ps ts))] a ∧ Below w0.heap.size w0 w) := by
  refine T3.leaf ?_
  rintro Q JS JX JT K hS hK hX hE hT hR a w ⟨hC, hM, ⟨f, rfl, q7, q10, q1, q3, q5, _⟩⟩
  have HC := Lib.hid hC
  clear hC
  rw [frame78, show f 7 = .int .i64 (cnt ts r.stat) from q7, show f 10 = .int .i64 0 from q10, show f 1 = vp from q1, show f 3 = .pointer (some ⟨g3, 0, none⟩) from q3, show f 5 = .pointer (some ⟨g5, 0, none⟩) from q5]
  clear q7 q10 q1 q3 q5
  conv => arg 2; whnf
  have c2 := hM.rc.2 2 _ rfl
  have Hp := Lib.hid (show posBad r ps = (decide (r.pos.size ≠ 0) && !hasS ps r.pos) from rfl)
  generalize r.pos = s2 at *
  by_cases h2 : s2.size = 0
  · have Hq := Lib.hid (show false = posBad r ps by rw [Hp.out]; simp [h2])
    have e2 := str_empty h2
    clear h2
    go_wp2_with fail
    refine Met.intro (hS _ _ ?_)
    exact ⟨false, Fr.of _ rfl ⟨rfl, rfl, rfl, rfl, rfl, rfl, trivial⟩, Hq.out, hM⟩
  · have e2 := str_full h2
    have e3 : (!s2.toList.isEmpty) = true := by rw [e2]; rfl
    have H1 := Lib.hid (contains_str vp ps.length ps s2 0 w hM.pr)
    have Hq := Lib.hid (show (!hasS ps s2) = posBad r ps by rw [Hp.out]; simp [h2])
    clear h2
    generalize hasS ps s2 = q at *
    cases q
    · go_wp2_with (go_at_call 54; refine H1.out.mono ?_; rintro e w1 ⟨rfl, rfl⟩)
      refine Met.intro (hS _ _ ?_)
      exact ⟨true, Fr.of _ rfl ⟨rfl, rfl, rfl, rfl, rfl, rfl, trivial⟩, Hq.out, hM⟩
    · go_wp2_with (go_at_call 54; refine H1.out.mono ?_; rintro e w1 ⟨rfl, rfl⟩)
      refine Met.intro (hS _ _ ?_)
      exact ⟨false, Fr.of _ rfl ⟨rfl, rfl, rfl, rfl, rfl, rfl, trivial⟩, Hq.out, hM⟩

set_option maxRecDepth 100000 in
set_option maxHeartbeats 1000000 in
theorem gr_none (w0 : World) (r : RuleL) (pl : ByteArray) (wk : Int) (vt vp : Value) (ts : List StatL) (ps : List ByteArray) (g3 g5 : Nat) (hr : RuleGood r) (hc : ∀ t ∈ ts, -100000 ≤ t.count ∧ t.count ≤ 100000) : T3 Tryd.prog (fun a w => Fr 78 ((26, .bool true) :: [(7, .int .i64 (cnt ts r.stat)), (10, .int .i64 0), (1, vp), (3, .pointer (some ⟨g3, 0, none⟩)), (5, .pointer (some ⟨g5, 0, none⟩))]) a ∧ (true = posBad r ps) ∧ Gw w0 r pl wk vt vp ts ps g3 g5 w) (sel [1, 1, 1, 1, 0, 4, 1, 2] worthR) No No 9 (fun a w => Fr 78 [(6, .int .i64 (givesV r ps ts))] a ∧ Below w0.heap.size w0 w) := by
  refine T3.leaf ?_
  rintro Q JS JX JT K hS hK hX hE hT hR a w ⟨⟨f, rfl, q26, q7, q10, q1, q3, q5, _⟩, hC, hM⟩
  have He := Lib.hid (show givesV r ps ts = 0 by unfold givesV; rw [if_pos hC.symm])
  have hb := hM.bel
  clear hC
  rw [frame78, show f 26 = .bool true from q26, show f 7 = .int .i64 (cnt ts r.stat) from q7, show f 10 = .int .i64 0 from q10, show f 1 = vp from q1, show f 3 = .pointer (some ⟨g3, 0, none⟩) from q3, show f 5 = .pointer (some ⟨g5, 0, none⟩) from q5]
  clear q26 q7 q10 q1 q3 q5
  conv => arg 2; whnf
  go_wp2_with fail
  refine Met.intro (hT _ _ ?_)
  exact ⟨Fr.of _ rfl ⟨by rw [He.out]; rfl, trivial⟩, hb⟩

set_option maxRecDepth 100000 in
set_option maxHeartbeats 1000000 in
theorem gr_c0 (w0 : World) (r : RuleL) (pl : ByteArray) (wk : Int) (vt vp : Value) (ts : List StatL) (ps : List ByteArray) (g3 g5 : Nat) (hr : RuleGood r) (hc : ∀ t ∈ ts, -100000 ≤ t.count ∧ t.count ≤ 100000) : T3 Tryd.prog (fun a w => True ∧ Gw w0 r pl wk vt vp ts ps g3 g5 w ∧ Fr 78 [(1, vp), (3, .pointer (some ⟨g3, 0, none⟩)), (5, .pointer (some ⟨g5, 0, none⟩))] a) (sel [1, 0] worthR)
    (fun a w => True ∧ Gw w0 r pl wk vt vp ts ps g3 g5 w ∧ Fr 78 [(7, .int .i64 0), (1, vp), (3, .pointer (some ⟨g3, 0, none⟩)), (5, .pointer (some ⟨g5, 0, none⟩))] a) No 9
    (fun a w => Fr 78 [(6, .int .i64 (givesV r ps ts))] a ∧ Below w0.heap.size w0 w) := by
  refine T3.leaf ?_
  rintro Q JS JX JT K hS hK hX hE hT hR a w ⟨hC, hM, ⟨f, rfl, q1, q3, q5, _⟩⟩
  have HC := Lib.hid hC
  clear hC
  rw [frame78, show f 1 = vp from q1, show f 3 = .pointer (some ⟨g3, 0, none⟩) from q3, show f 5 = .pointer (some ⟨g5, 0, none⟩) from q5]
  clear q1 q3 q5
  conv => arg 2; whnf
  go_wp2_with fail
  refine Met.intro (hS _ _ ?_)
  exact ⟨trivial, hM, Fr.of _ rfl ⟨rfl, rfl, rfl, rfl, trivial⟩⟩

def grC (w0 : World) (r : RuleL) (pl : ByteArray) (wk : Int) (vt vp : Value) (ts : List StatL) (ps : List ByteArray) (g3 g5 : Nat) (k : Int) (a : Act) (w : World) : Prop := (0 ≤ k ∧ k ≤ ts.length) ∧ Gw w0 r pl wk vt vp ts ps g3 g5 w ∧ Fr 78 [(12, vt), (13, .int .i64 ts.length), (14, .int .i64 k), (7, .int .i64 (cntTo ts r.stat k)), (1, vp), (3, .pointer (some ⟨g3, 0, none⟩)), (5, .pointer (some ⟨g5, 0, none⟩))] a
set_option maxRecDepth 100000 in
set_option maxHeartbeats 1000000 in
theorem gr_c1 (w0 : World) (r : RuleL) (pl : ByteArray) (wk : Int) (vt vp : Value) (ts : List StatL) (ps : List ByteArray) (g3 g5 : Nat) (hr : RuleGood r) (hc : ∀ t ∈ ts, -100000 ≤ t.count ∧ t.count ≤ 100000) : T3 Tryd.prog (fun a w => True ∧ Gw w0 r pl wk vt vp ts ps g3 g5 w ∧ Fr 78 [(7, .int .i64 0), (1, vp), (3, .pointer (some ⟨g3, 0, none⟩)), (5, .pointer (some ⟨g5, 0, none⟩))] a) (sel [1, 1, 0, 0] worthR)
    (grC w0 r pl wk vt vp ts ps g3 g5 0) No 9
    (fun a w => Fr 78 [(6, .int .i64 (givesV r ps ts))] a ∧ Below w0.heap.size w0 w) := by
  refine T3.leaf ?_
  rintro Q JS JX JT K hS hK hX hE hT hR a w ⟨hC, hM, ⟨f, rfl, q7, q1, q3, q5, _⟩⟩
  have HC := Lib.hid hC
  clear hC
  rw [frame78, show f 7 = .int .i64 0 from q7, show f 1 = vp from q1, show f 3 = .pointer (some ⟨g3, 0, none⟩) from q3, show f 5 = .pointer (some ⟨g5, 0, none⟩) from q5]
  clear q7 q1 q3 q5
  conv => arg 2; whnf
  obtain ⟨p, c, hv⟩ := hM.tr.shape
  have c2 := hM.lc.2 2 _ rfl
  rw [hv] at c2
  go_wp2_with fail
  refine Met.intro (hS _ _ ?_)
  exact ⟨⟨by omega, by omega⟩, hM, Fr.of _ rfl ⟨hv.symm, rfl, rfl, rfl, rfl, rfl, rfl, trivial⟩⟩

set_option maxRecDepth 100000 in
set_option maxHeartbeats 1000000 in
theorem gr_cr (w0 : World) (r : RuleL) (pl : ByteArray) (wk : Int) (vt vp : Value) (ts : List StatL) (ps : List ByteArray) (g3 g5 : Nat) (hr : RuleGood r) (hc : ∀ t ∈ ts, -100000 ≤ t.count ∧ t.count ≤ 100000) (n : Nat) : T3 Tryd.prog (fun a w => ∃ k : Int, (n : Int) = ts.length - k ∧ grC w0 r pl wk vt vp ts ps g3 g5 k a w) (sel [1, 1, 0, 1, 4, 4] worthR)
    (fun a w => ∃ m, m < n ∧ ∃ k : Int, (m : Int) = ts.length - k ∧ grC w0 r pl wk vt vp ts ps g3 g5 k a w) (grC w0 r pl wk vt vp ts ps g3 g5 ts.length) 0
    (fun a w => Fr 78 [(6, .int .i64 (givesV r ps ts))] a ∧ Below w0.heap.size w0 w) := by
  refine T3.leaf ?_
  rintro Q JS JX JT K hS hK hX hE hT hR a w ⟨k, hn, ⟨hk0, hk1⟩, hM, ⟨f, rfl, q12, q13, q14, q7, q1, q3, q5, _⟩⟩
  rw [frame78, show f 12 = vt from q12, show f 13 = .int .i64 ts.length from q13, show f 14 = .int .i64 k from q14, show f 7 = .int .i64 (cntTo ts r.stat k) from q7, show f 1 = vp from q1, show f 3 = .pointer (some ⟨g3, 0, none⟩) from q3, show f 5 = .pointer (some ⟨g5, 0, none⟩) from q5]
  clear q12 q13 q14 q7 q1 q3 q5
  conv => arg 2; whnf
  have HS := Lib.hid hS
  have HX := Lib.hid hX
  clear hS hX
  by_cases hlt : k < ts.length
  · obtain ⟨_, hcs⟩ := hM.tr.els encT_length (by decide)
    rcases hcs with ⟨_, h0⟩ | ⟨b, off, cap, hv, _, hbs, hnc, hcm, hcell⟩
    · omega
    have t0 := hcell k hk0 hlt 0 _ rfl
    have t1 := hcell k hk0 hlt 1 _ rfl
    rw [Nat.add_zero] at t0
    have Hs := Lib.hid (cntTo_succ ts r.stat k hk0 hlt)
    have Hv := Lib.hid hv
    rw [hv]
    have hb := (Below.refl w.heap.size w).alloc (Nat.le_refl _) (.cells (encT (geta ts k)).toArray 74)
    replace hM := hM.below hb
    have c1 := hM.rc.2 1 _ rfl
    clear hv hcell hb
    unfold encT at hM c1
    generalize (geta ts k).name = s1 at *
    generalize (geta ts k).count = n1 at *
    generalize hs2 : r.stat = s2 at *
    have Hse := Lib.hid hs2
    clear hs2
    go_upto_region 5 with fail
    have d0 := cells_new w #[.string s1, .int .i64 n1] 74 0 _ rfl
    have d1 := cells_new w #[.string s1, .int .i64 n1] 74 1 _ rfl
    change Gw _ _ _ _ _ _ _ _ _ _ (w.alloc (.cells #[.string s1, .int .i64 n1] 74)) at hM
    change (w.alloc (.cells #[.string s1, .int .i64 n1] 74)).cell? _ = _ at c1
    generalize w.alloc (.cells #[.string s1, .int .i64 n1] 74) = W at *
    generalize w.heap.size = g at *
    clear t0 t1
    generalize cntTo ts s2 k = m at *
    by_cases hq : s1 = s2
    · subst hq
      have Hs2 := Lib.hid (show cntTo ts s1 (k + 1) = n1 by rw [Hs.out, if_pos rfl])
      clear Hs
      go_wp2_with fail
      refine Met.intro (HS.out _ _ ?_)
      exact ⟨n - 1, by omega, k + 1, by omega, ⟨by omega, by omega⟩, hM, Fr.of _ rfl ⟨Hv.out.symm, rfl, rfl, by rw [Hse.out, Hs2.out]; rfl, rfl, rfl, rfl, trivial⟩⟩
    · have hqb := toList_ne hq
      have Hs2 := Lib.hid (show cntTo ts s2 (k + 1) = m by rw [Hs.out, if_neg hq])
      clear Hs
      go_wp2_with fail
      refine Met.intro (HS.out _ _ ?_)
      exact ⟨n - 1, by omega, k + 1, by omega, ⟨by omega, by omega⟩, hM, Fr.of _ rfl ⟨Hv.out.symm, rfl, rfl, by rw [Hse.out, Hs2.out]; rfl, rfl, rfl, rfl, trivial⟩⟩
  · have hk : k = ts.length := by omega
    subst hk
    go_wp2_with fail
    refine hE _ _ (Met.intro (HX.out _ _ ?_))
    exact ⟨⟨hk0, hk1⟩, hM, Fr.of _ rfl ⟨rfl, rfl, rfl, rfl, rfl, rfl, rfl, trivial⟩⟩

set_option maxRecDepth 100000 in
set_option maxHeartbeats 1000000 in
theorem gr_cnt (w0 : World) (r : RuleL) (pl : ByteArray) (wk : Int) (vt vp : Value) (ts : List StatL) (ps : List ByteArray) (g3 g5 : Nat) (hr : RuleGood r) (hc : ∀ t ∈ ts, -100000 ≤ t.count ∧ t.count ≤ 100000) : T3 Tryd.prog (grC w0 r pl wk vt vp ts ps g3 g5 0) (sel [1, 1, 0, 1] worthR) (grC w0 r pl wk vt vp ts ps g3 g5 ts.length) No 9 (fun a w => Fr 78 [(6, .int .i64 (givesV r ps ts))] a ∧ Below w0.heap.size w0 w) := by
  refine T3.loop (c := (sel [1, 1, 0, 1, 4, 4] worthR)) (fun n a w => ∃ k : Int, (n : Int) = ts.length - k ∧ grC w0 r pl wk vt vp ts ps g3 g5 k a w) (fun a w h => ⟨ts.length, 0, by omega, h⟩) (fun n => gr_cr w0 r pl wk vt vp ts ps g3 g5 hr hc n)

set_option maxRecDepth 100000 in
set_option maxHeartbeats 1000000 in
theorem gr_t0 (w0 : World) (r : RuleL) (pl : ByteArray) (wk : Int) (vt vp : Value) (ts : List StatL) (ps : List ByteArray) (g3 g5 : Nat) (hr : RuleGood r) (hc : ∀ t ∈ ts, -100000 ≤ t.count ∧ t.count ≤ 100000) : T3 Tryd.prog (fun a w => True ∧ Gw w0 r pl wk vt vp ts ps g3 g5 w ∧ Fr 78 [(7, .int .i64 (cnt ts r.stat)), (1, vp), (3, .pointer (some ⟨g3, 0, none⟩)), (5, .pointer (some ⟨g5, 0, none⟩))] a) (sel [1, 1, 1, 0] worthR)
    (fun a w => True ∧ Gw w0 r pl wk vt vp ts ps g3 g5 w ∧ Fr 78 [(7, .int .i64 (cnt ts r.stat)), (10, .int .i64 0), (1, vp), (3, .pointer (some ⟨g3, 0, none⟩)), (5, .pointer (some ⟨g5, 0, none⟩))] a) No 9
    (fun a w => Fr 78 [(6, .int .i64 (givesV r ps ts))] a ∧ Below w0.heap.size w0 w) := by
  refine T3.leaf ?_
  rintro Q JS JX JT K hS hK hX hE hT hR a w ⟨hC, hM, ⟨f, rfl, q7, q1, q3, q5, _⟩⟩
  have HC := Lib.hid hC
  clear hC
  rw [frame78, show f 7 = .int .i64 (cnt ts r.stat) from q7, show f 1 = vp from q1, show f 3 = .pointer (some ⟨g3, 0, none⟩) from q3, show f 5 = .pointer (some ⟨g5, 0, none⟩) from q5]
  clear q7 q1 q3 q5
  conv => arg 2; whnf
  go_wp2_with fail
  refine Met.intro (hS _ _ ?_)
  exact ⟨trivial, hM, Fr.of _ rfl ⟨rfl, rfl, rfl, rfl, rfl, trivial⟩⟩

set_option maxRecDepth 100000 in
set_option maxHeartbeats 1000000 in
theorem gr_sw (w0 : World) (r : RuleL) (pl : ByteArray) (wk : Int) (vt vp : Value) (ts : List StatL) (ps : List ByteArray) (g3 g5 : Nat) (hr : RuleGood r) (hc : ∀ t ∈ ts, -100000 ≤ t.count ∧ t.count ≤ 100000) : T3 Tryd.prog (fun a w => True ∧ Gw w0 r pl wk vt vp ts ps g3 g5 w ∧ Fr 78 [(7, .int .i64 (cnt ts r.stat)), (10, .int .i64 0), (1, vp), (3, .pointer (some ⟨g3, 0, none⟩)), (5, .pointer (some ⟨g5, 0, none⟩))] a) (sel [1, 1, 1, 1, 0, 4, 1, 3] worthR) (fun a w => True ∧ Gw w0 r pl wk vt vp ts ps g3 g5 w ∧ Fr 78 [(10, .int .i64 (timesV r (cnt ts r.stat))), (1, vp), (3, .pointer (some ⟨g3, 0, none⟩)), (5, .pointer (some ⟨g5, 0, none⟩))] a) No 9 (fun a w => Fr 78 [(6, .int .i64 (givesV r ps ts))] a ∧ Below w0.heap.size w0 w) := by
  refine T3.leaf ?_
  rintro Q JS JX JT K hS hK hX hE hT hR a w ⟨hC, hM, ⟨f, rfl, q7, q10, q1, q3, q5, _⟩⟩
  have hcb := cntTo_le ts r.stat hc ts.length (by omega) (by omega)
  change -100000 ≤ cnt ts r.stat ∧ cnt ts r.stat ≤ 100000 at hcb
  have hk0 := hr.k0
  have hk1 := hr.k1
  have hm := hr.m
  have c3 := hM.rc.2 3 _ rfl
  have c4 := hM.rc.2 4 _ rfl
  rw [frame78, show f 7 = .int .i64 (cnt ts r.stat) from q7, show f 10 = .int .i64 0 from q10, show f 1 = vp from q1, show f 3 = .pointer (some ⟨g3, 0, none⟩) from q3, show f 5 = .pointer (some ⟨g5, 0, none⟩) from q5]
  clear q7 q10 q1 q3 q5
  conv => arg 2; whnf
  generalize cnt ts r.stat = m at *
  have Ht := Lib.hid (show timesV r m = if r.kind = 1 then m else if r.kind = 2 then max m 0 / r.many else if r.kind = 3 then (if r.many ≤ m then 1 else 0) else if m = 0 then 1 else 0 from rfl)
  generalize r.kind = kd at *
  generalize r.many = mn at *
  have hkd : kd = 1 ∨ kd = 2 ∨ kd = 3 ∨ kd = 4 := by omega
  clear hk0 hk1
  rcases hkd with rfl | rfl | rfl | rfl
  · have HE := Lib.hid (show timesV r m = m by rw [Ht.out, if_pos rfl])
    clear hm
    go_wp2_with fail
    refine Met.intro (hS _ _ ?_)
    exact ⟨trivial, hM, Fr.of _ rfl ⟨by rw [HE.out]; rfl, rfl, rfl, rfl, trivial⟩⟩
  · have hm := hm (.inl rfl)
    have hmz : (mn == 0) = false := by simp; omega
    by_cases hp : 0 < m
    · have HE := Lib.hid (show timesV r m = m / mn by rw [Ht.out, if_neg (by decide), if_pos rfl, Int.max_eq_left (by omega)])
      have hq0 : 0 ≤ m / mn := Int.ediv_nonneg (by omega) (by omega)
      have hq1 : m / mn ≤ m := Int.ediv_le_self _ (by omega)
      go_wp2_with fail
      refine Met.intro (hS _ _ ?_)
      exact ⟨trivial, hM, Fr.of _ rfl ⟨by rw [HE.out]; rfl, rfl, rfl, rfl, trivial⟩⟩
    · have HE := Lib.hid (show timesV r m = 0 by rw [Ht.out, if_neg (by decide), if_pos rfl, Int.max_eq_right (by omega), Int.zero_ediv])
      have hpd : decide (0 < m) = false := by simp; omega
      go_wp2_with fail
      refine Met.intro (hS _ _ ?_)
      exact ⟨trivial, hM, Fr.of _ rfl ⟨by rw [HE.out]; rfl, rfl, rfl, rfl, trivial⟩⟩
  · have hm := hm (.inr rfl)
    by_cases hge : mn ≤ m
    · have HE := Lib.hid (show timesV r m = 1 by rw [Ht.out, if_neg (by decide), if_neg (by decide), if_pos rfl, if_pos hge])
      go_wp2_with fail
      refine Met.intro (hS _ _ ?_)
      exact ⟨trivial, hM, Fr.of _ rfl ⟨by rw [HE.out]; rfl, rfl, rfl, rfl, trivial⟩⟩
    · have HE := Lib.hid (show timesV r m = 0 by rw [Ht.out, if_neg (by decide), if_neg (by decide), if_pos rfl, if_neg hge])
      have hgd : decide (mn ≤ m) = false := by simp; omega
      go_wp2_with fail
      refine Met.intro (hS _ _ ?_)
      exact ⟨trivial, hM, Fr.of _ rfl ⟨by rw [HE.out]; rfl, rfl, rfl, rfl, trivial⟩⟩
  · clear hm
    by_cases hz : m = 0
    · have HE := Lib.hid (show timesV r m = 1 by rw [Ht.out, if_neg (by decide), if_neg (by decide), if_neg (by decide), if_pos hz])
      have hzb : (m == 0) = true := by simp [hz]
      clear hz
      go_wp2_with fail
      refine Met.intro (hS _ _ ?_)
      exact ⟨trivial, hM, Fr.of _ rfl ⟨by rw [HE.out]; rfl, rfl, rfl, rfl, trivial⟩⟩
    · have HE := Lib.hid (show timesV r m = 0 by rw [Ht.out, if_neg (by decide), if_neg (by decide), if_neg (by decide), if_neg hz])
      have hzb : (m == 0) = false := by simp [hz]
      clear hz
      go_wp2_with fail
      refine Met.intro (hS _ _ ?_)
      exact ⟨trivial, hM, Fr.of _ rfl ⟨by rw [HE.out]; rfl, rfl, rfl, rfl, trivial⟩⟩

set_option maxRecDepth 100000 in
set_option maxHeartbeats 1000000 in
theorem gr_worth (w0 : World) (r : RuleL) (pl : ByteArray) (wk : Int) (vt vp : Value) (ts : List StatL) (ps : List ByteArray) (g3 g5 : Nat) (hr : RuleGood r) (hc : ∀ t ∈ ts, -100000 ≤ t.count ∧ t.count ≤ 100000) (hp : posBad r ps = false) : T3 Tryd.prog (fun a w => True ∧ Gw w0 r pl wk vt vp ts ps g3 g5 w ∧ Fr 78 [(10, .int .i64 (timesV r (cnt ts r.stat))), (1, vp), (3, .pointer (some ⟨g3, 0, none⟩)), (5, .pointer (some ⟨g5, 0, none⟩))] a) (sel [1, 1, 1, 1, 1, 0] worthR) (fun a w => Fr 78 [(6, .int .i64 (givesV r ps ts))] a ∧ Below w0.heap.size w0 w) No 9 (fun a w => Fr 78 [(6, .int .i64 (givesV r ps ts))] a ∧ Below w0.heap.size w0 w) := by
  refine T3.leaf ?_
  rintro Q JS JX JT K hS hK hX hE hT hR a w ⟨hC, hM, ⟨f, rfl, q10, q1, q3, q5, _⟩⟩
  have hn0 := hr.n0
  have hn1 := hr.n1
  have hd0 := hr.d0
  have hd1 := hr.d1
  have hh0 := hr.h0
  have hh1 := hr.h1
  have hcb := cntTo_le ts r.stat hc ts.length (by omega) (by omega)
  change -100000 ≤ cnt ts r.stat ∧ cnt ts r.stat ≤ 100000 at hcb
  have htb := times_le r (cnt ts r.stat) hr.m hcb.1 hcb.2
  have hbb := mul_b (hund r.num r.den) (timesV r (cnt ts r.stat)) hh0 hh1 htb.1 htb.2
  have HE := Lib.hid (show givesV r ps ts = timesV r (cnt ts r.stat) * hund r.num r.den by unfold givesV; rw [if_neg (by rw [hp]; decide), Int.mul_comm])
  rw [Int.mul_comm] at hbb
  clear hcb hp
  have c5 := hM.rc.2 5 _ rfl
  have c6 := hM.rc.2 6 _ rfl
  rw [frame78, show f 10 = .int .i64 (timesV r (cnt ts r.stat)) from q10, show f 1 = vp from q1, show f 3 = .pointer (some ⟨g3, 0, none⟩) from q3, show f 5 = .pointer (some ⟨g5, 0, none⟩) from q5]
  clear q10 q1 q3 q5
  conv => arg 2; whnf
  generalize timesV r (cnt ts r.stat) = m at *
  generalize r.num = n1 at *
  generalize r.den = n2 at *
  go_wp2_with (go_at_call 55; refine (hundredths_ref n1 n2 _ (by omega) (by omega) hd0 (by omega)).mono ?_; rintro e w1 ⟨rfl, hb⟩; replace hM := hM.below hb; clear hb)
  have hb := hM.bel
  refine Met.intro (hS _ _ ?_)
  exact ⟨Fr.of _ rfl ⟨by rw [HE.out]; rfl, trivial⟩, hb⟩

set_option maxRecDepth 100000 in
set_option maxHeartbeats 1000000 in
theorem gr_all (w0 : World) (r : RuleL) (pl : ByteArray) (wk : Int) (vt vp : Value) (ts : List StatL) (ps : List ByteArray) (g3 g5 : Nat) (hr : RuleGood r) (hc : ∀ t ∈ ts, -100000 ≤ t.count ∧ t.count ≤ 100000) : T3 Tryd.prog (fun a w => True ∧ Gw w0 r pl wk vt vp ts ps g3 g5 w ∧ Fr 78 [(1, vp), (3, .pointer (some ⟨g3, 0, none⟩)), (5, .pointer (some ⟨g5, 0, none⟩))] a) (sel [1] worthR) No No 9 (fun a w => Fr 78 [(6, .int .i64 (givesV r ps ts))] a ∧ Below w0.heap.size w0 w) := by
  refine T3.seq (s := (sel [1, 0] worthR)) (c := (sel [1, 1] worthR)) (gr_c0 w0 r pl wk vt vp ts ps g3 g5 hr hc) ?_
  refine T3.seq (s := (sel [1, 1, 0] worthR)) (c := (sel [1, 1, 1] worthR)) (T3.seq (s := (sel [1, 1, 0, 0] worthR)) (c := (sel [1, 1, 0, 1] worthR)) (gr_c1 w0 r pl wk vt vp ts ps g3 g5 hr hc) (gr_cnt w0 r pl wk vt vp ts ps g3 g5 hr hc)) ?_
  refine T3.seq (s := (sel [1, 1, 1, 0] worthR)) (c := (sel [1, 1, 1, 1] worthR)) ((gr_t0 w0 r pl wk vt vp ts ps g3 g5 hr hc).pre (fun a w q => ⟨trivial, q.2.1, q.2.2.sub (by intro p hp; simp at hp ⊢; rcases hp with h | h | h | h <;> simp [h, cnt])⟩)) ?_
  cases hp : posBad r ps
  · refine T3.seq (s := (sel [1, 1, 1, 1, 0] worthR)) (c := (sel [1, 1, 1, 1, 1] worthR)) (T3.noX (id := 8) (T3.block (id := 8) (c := (sel [1, 1, 1, 1, 0, 4] worthR)) (by decide) (T3.noX (id := 9) (T3.test (s := (sel [1, 1, 1, 1, 0, 4, 0] worthR)) (x := (sel [1, 1, 1, 1, 0, 4, 1, 2] worthR)) (y := (sel [1, 1, 1, 1, 0, 4, 1, 3] worthR)) (l := [(7, .int .i64 (cnt ts r.stat)), (10, .int .i64 0), (1, vp), (3, .pointer (some ⟨g3, 0, none⟩)), (5, .pointer (some ⟨g5, 0, none⟩))]) (C := fun q => q = posBad r ps) (W := Gw w0 r pl wk vt vp ts ps g3 g5) (by decide) (gr_pos w0 r pl wk vt vp ts ps g3 g5 hr hc) (T3.noS (gr_none w0 r pl wk vt vp ts ps g3 g5 hr hc)) ((gr_sw w0 r pl wk vt vp ts ps g3 g5 hr hc).pre (fun a w q => ⟨trivial, q.2⟩)))))) ?_
    exact T3.seq (s := (sel [1, 1, 1, 1, 1, 0] worthR)) (c := .ret) (gr_worth w0 r pl wk vt vp ts ps g3 g5 hr hc hp) (T3.ret (fun a w q => q))
  · refine T3.seq (s := (sel [1, 1, 1, 1, 0] worthR)) (c := (sel [1, 1, 1, 1, 1] worthR)) (S := No) (T3.noX (id := 8) (T3.block (id := 8) (c := (sel [1, 1, 1, 1, 0, 4] worthR)) (by decide) (T3.noX (id := 9) (T3.test (s := (sel [1, 1, 1, 1, 0, 4, 0] worthR)) (x := (sel [1, 1, 1, 1, 0, 4, 1, 2] worthR)) (y := (sel [1, 1, 1, 1, 0, 4, 1, 3] worthR)) (l := [(7, .int .i64 (cnt ts r.stat)), (10, .int .i64 0), (1, vp), (3, .pointer (some ⟨g3, 0, none⟩)), (5, .pointer (some ⟨g5, 0, none⟩))]) (C := fun q => q = posBad r ps) (W := Gw w0 r pl wk vt vp ts ps g3 g5) (by decide) (gr_pos w0 r pl wk vt vp ts ps g3 g5 hr hc) (T3.noS (gr_none w0 r pl wk vt vp ts ps g3 g5 hr hc)) ?_)))) (fun a w q => q.elim)
    intro a w q
    rw [hp] at q
    cases q.1

set_option maxRecDepth 100000 in
set_option maxHeartbeats 1000000 in
theorem gives_ref (w0 : World) (r : RuleL) (pl : ByteArray) (wk : Int) (vt vp : Value) (ts : List StatL) (ps : List ByteArray) (hr : RuleGood r) (hc : ∀ t ∈ ts, -100000 ≤ t.count ∧ t.count ≤ 100000)
    (htr : Row w0 0 2 vt ts.length (cellsOf encT ts)) (hpr : Row w0 0 1 vp ps.length (cellsOf encS ps)) :
    Calls Tryd.prog 38 #[.agg #[.string r.key, .string r.stat, .string r.pos, .int .i64 r.kind, .int .i64 r.many, .int .i64 r.num, .int .i64 r.den], vp, .agg #[.string pl, .int .i64 wk, vt]] w0 fun e w' =>
      e = .returned (.int .i64 (givesV r ps ts)) ∧ Below w0.heap.size w0 w' := by
  have hb1 := (Below.refl w0.heap.size w0).alloc (Nat.le_refl _) (.cells (encR r).toArray 57)
  have hb2 := (Below.refl (w0.alloc (.cells (encR r).toArray 57)).heap.size (w0.alloc (.cells (encR r).toArray 57))).alloc (Nat.le_refl _) (.cells #[.string pl, .int .i64 wk, vt] 32)
  have hM : Gw w0 r pl wk vt vp ts ps w0.heap.size (w0.alloc (.cells (encR r).toArray 57)).heap.size ((w0.alloc (.cells (encR r).toArray 57)).alloc (.cells #[.string pl, .int .i64 wk, vt] 32)) :=
    ⟨hb1.trans (hb2.mono hb1.size), (CellsAt.new w0 (encR r).toArray _).below hb2, CellsAt.new _ _ _, (htr.below hb1).below hb2, (hpr.below hb1).below hb2⟩
  have HM := Lib.hid hM
  obtain ⟨p1, c1, hv1⟩ := htr.shape
  obtain ⟨p2, c2, hv2⟩ := hpr.shape
  subst hv1
  subst hv2
  unfold encR at HM
  have hsz : (w0.alloc (.cells (encR r).toArray 57)).heap.size = w0.heap.size + 1 := by simp
  unfold encR at hsz
  rw [hsz] at HM
  clear hM hb1 hb2 hsz
  go_enter Tryd.func38, Tryd.ntmps38
  refine T3.done (P := Tryd.prog) (s := worthR) (R := fun a w => w = w0 ∧ Fr 78 [(0, .agg #[.string r.key, .string r.stat, .string r.pos, .int .i64 r.kind, .int .i64 r.many, .int .i64 r.num, .int .i64 r.den]), (1, .slice p2 ps.length c2), (2, .agg #[.string pl, .int .i64 wk, .slice p1 ts.length c1])] a)
    (T3.seq (s := (sel [0] worthR)) (c := (sel [1] worthR)) ?_ (gr_all w0 r pl wk (.slice p1 ts.length c1) (.slice p2 ps.length c2) ts ps w0.heap.size (w0.heap.size + 1) hr hc)) ⟨rfl, Fr.of _ rfl ⟨rfl, rfl, rfl, trivial⟩⟩ ?_
  · refine T3.leaf ?_
    rintro Q JS JX JT K hS hK hX hE hT hR a w ⟨hw, ⟨f, rfl, q0, q1, q2, _⟩⟩
    subst hw
    rw [frame78, show f 0 = _ from q0, show f 1 = _ from q1, show f 2 = _ from q2]
    clear q0 q1 q2
    conv => arg 2; whnf
    go_wp2_with fail
    refine Met.intro (hS _ _ ?_)
    exact ⟨trivial, HM.out, Fr.of _ rfl ⟨rfl, rfl, rfl, trivial⟩⟩
  · rintro a w ⟨⟨f, rfl, q6, _⟩, hb⟩
    rw [frame78, show f 6 = _ from q6]
    go_ret
    exact ⟨rfl, hb⟩

end Go.Proofs.YtbidnbcclibigaaDoor
