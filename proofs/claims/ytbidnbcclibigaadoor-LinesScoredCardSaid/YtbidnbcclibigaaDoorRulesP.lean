/-
  Rules: the program's and the reference's look at them. Conditions: strings and numbers are no greater than Go's.
-/
import Derived.Test.YtbidnbcclibigaaDoorLine
import Derived.Test.YtbidnbcclibigaaDoorFrac
import Derived.Test.YtbidnbcclibigaaDoorPieceT
namespace Go.Bw
open Go.RowKit
structure RuleL where
  key : ByteArray
  stat : ByteArray
  pos : ByteArray
  kind : Int
  many : Int
  num : Int
  den : Int
instance : Inhabited RuleL := ⟨⟨ByteArray.empty, ByteArray.empty, ByteArray.empty, 0, 0, 0, 0⟩⟩
def encR (r : RuleL) : List Value := [.string r.key, .string r.stat, .string r.pos, .int .i64 r.kind, .int .i64 r.many, .int .i64 r.num, .int .i64 r.den]
theorem encR_length (r : RuleL) : (encR r).length = 7 := rfl
/-- Its parts are no greater than Go's. -/
structure RuleOk (r : RuleL) : Prop where
  key : r.key.size ≤ 9223372036854775807
  stat : r.stat.size ≤ 9223372036854775807
  pos : r.pos.size ≤ 9223372036854775807
  num0 : -9223372036854775808 ≤ r.num
  num1 : r.num ≤ 9223372036854775807
  den0 : -9223372036854775808 ≤ r.den
  den1 : r.den ≤ 9223372036854775807
/-- Block g holds a copy. -/
def CopyR (w : World) (g : Nat) (r : RuleL) : Prop := g < w.heap.size ∧ ∀ j u, (encR r)[j]? = some u → w.cell? ⟨g, j, none⟩ = some u
theorem CopyR.below {w w' : World} {g : Nat} {r : RuleL} (h : CopyR w g r) (b : Below w.heap.size w w') : CopyR w' g r :=
  ⟨Nat.lt_of_lt_of_le h.1 b.size, fun j u hu => (b.cell (p := ⟨g, j, none⟩) h.1).trans (h.2 j u hu)⟩
theorem str_empty {s : ByteArray} (h : s.size = 0) : s.toList = [] := by
  have : s.data.toList.length = 0 := by simpa using h
  have := List.length_eq_zero_iff.1 this
  simpa [ByteArray.toList_eq] using this
theorem str_full {s : ByteArray} (h : s.size ≠ 0) : s.toList.isEmpty = false := by
  have : s.data.toList.length ≠ 0 := by simpa using h
  have : s.data.toList ≠ [] := fun e => this (by rw [e]; rfl)
  simpa [ByteArray.toList_eq] using this
end Go.Bw
namespace Go.Proofs.YtbidnbcclibigaaDoor
open Go.RowKit Go.Bw
def nameB (r : RuleL) : Bool := !keyB r.key || !keyB r.stat || (decide (r.pos.size ≠ 0) && !keyB r.pos)
def orderB (l : List RuleL) (i : Int) : Bool := decide (0 < i) && leB (geta l i).key (geta l (i - 1)).key
def kindB (r : RuleL) : Bool := outB r.kind 1 4
def many2 (r : RuleL) : Bool := r.kind == 2 || r.kind == 3
def manyBad (r : RuleL) : Bool := if many2 r = true then outB r.many 1 100000 else r.many != 0
def ruleAt (l : List RuleL) (i : Int) : Int :=
  if nameB (geta l i) = true then 5 else if orderB l i = true then 7 else if kindB (geta l i) = true then 4 else if manyBad (geta l i) = true then 1 else amountE (geta l i).num (geta l i).den 10000
def rulesE (l : List RuleL) : Int := if 100 < l.length then 2 else firstErr (ruleAt l) l.length
/-- The key before. -/
def lastK (l : List RuleL) (i : Int) : ByteArray := if i ≤ 0 then ByteArray.empty else (geta l (i - 1)).key
theorem order_last (l : List RuleL) (i : Int) (h : nameB (geta l i) = false) : orderB l i = leB (geta l i).key (lastK l i) := by
  unfold orderB lastK
  by_cases h0 : i ≤ 0
  · have hk : keyB (geta l i).key = true := by
      cases hk : keyB (geta l i).key
      · simp [nameB, hk] at h
      · rfl
    rw [if_pos h0, le_empty (keyB_pos hk)]
    simp; omega
  · rw [if_neg h0]
    simp; omega
theorem lastK_succ (l : List RuleL) (i : Int) (h : 0 ≤ i) : lastK l (i + 1) = (geta l i).key := by
  unfold lastK
  rw [if_neg (by omega), show i + 1 - 1 = i by omega]

/-- The round of rule k: its copy lies in block g. -/
structure Mw (w0 : World) (l : List RuleL) (k : Int) (g : Nat) (w : World) : Prop where
  k0 : 0 ≤ k
  k1 : k < l.length
  ok : NoErr (ruleAt l) k
  copy : CopyR w g (geta l k)
  bel : Below w0.heap.size w0 w
theorem Mw.below {w0 w w' : World} {l : List RuleL} {k : Int} {g : Nat} (h : Mw w0 l k g w) (b : Below w.heap.size w w') : Mw w0 l k g w' :=
  ⟨h.k0, h.k1, h.ok, h.copy.below b, h.bel.trans (b.mono h.bel.size)⟩
theorem Mw.drewN {w0 w : World} {l : List RuleL} {k : Int} {g : Nat} (h : Mw w0 l k g w) (n : Nat) : Mw w0 l k g (w.drewN n) :=
  ⟨h.k0, h.k1, h.ok, h.copy, below_drewN h.bel n⟩
theorem Mw.ends {w0 w : World} {l : List RuleL} {k : Int} {g : Nat} (h : Mw w0 l k g w) (hl : ¬ 100 < l.length) (he : ruleAt l k ≠ 0) : rulesE l = ruleAt l k := by
  unfold rulesE
  rw [if_neg hl]
  exact firstErr_hit h.ok h.k0 h.k1 he
noncomputable def rulesP : Code := (Tryd.f17.body).getD .skip
set_option maxRecDepth 100000 in
theorem frame87 (f : Nat → Value) : frame 87 f = ⟨#[f 0, f 1, f 2, f 3, f 4, f 5, f 6, f 7, f 8, f 9, f 10, f 11, f 12, f 13, f 14, f 15, f 16, f 17, f 18, f 19, f 20, f 21, f 22, f 23, f 24, f 25, f 26, f 27, f 28, f 29, f 30, f 31, f 32, f 33, f 34, f 35, f 36, f 37, f 38, f 39, f 40, f 41, f 42, f 43, f 44, f 45, f 46, f 47, f 48, f 49, f 50, f 51, f 52, f 53, f 54, f 55, f 56, f 57, f 58, f 59, f 60, f 61, f 62, f 63, f 64, f 65, f 66, f 67, f 68, f 69, f 70, f 71, f 72, f 73, f 74, f 75, f 76, f 77, f 78, f 79, f 80, f 81, f 82, f 83, f 84, f 85, f 86], []⟩ := by rfl
set_option maxRecDepth 100000 in
set_option maxHeartbeats 1000000 in
theorem rp_name (v : Value) (l : List RuleL) (w0 : World) (k : Int) (g : Nat) (hz : ∀ r ∈ l, RuleOk r) (hl : ¬ 100 < l.length) : T3 Tryd.prog (fun a w => (True) ∧ Mw w0 l k g w ∧ Fr 87 ([(0, v), (10, v), (11, .int .i64 l.length), (12, .int .i64 k), (3, .int .i64 k), (4, .pointer (some ⟨g, 0, none⟩))]) a) (sel [1, 1, 0, 1, 4, 4, 1, 1, 0, 4, 1, 0, 4, 0] rulesP)
    (fun a w => ∃ q, Fr 87 ((17, .bool q) :: [(0, v), (10, v), (11, .int .i64 l.length), (12, .int .i64 k), (3, .int .i64 k), (4, .pointer (some ⟨g, 0, none⟩))]) a ∧ ((q = nameB (geta l k)) ∧ Mw w0 l k g w)) No 0
    (fun a w => Fr 87 [(2, .int .i64 (rulesE l))] a ∧ Below w0.heap.size w0 w) := by
  refine T3.leaf ?_
  rintro Q JS JX JT K hS hK hX hE hT hR a w ⟨hC, hM, ⟨f, rfl, q0, q10, q11, q12, q3, q4, _⟩⟩
  have HC := Lib.hid hC
  clear hC
  have hr := hz _ (geta_mem hM.k0 hM.k1)
  have hk0 := hM.k0
  have hk1 := hM.k1
  have hcp := hM.copy.2
  rw [frame87, show f 0 = v from q0, show f 10 = v from q10, show f 11 = .int .i64 l.length from q11, show f 12 = .int .i64 k from q12, show f 3 = .int .i64 k from q3, show f 4 = .pointer (some ⟨g, 0, none⟩) from q4]
  clear q0 q10 q11 q12 q3 q4
  conv => arg 2; whnf
  have c0 := hcp 0 _ rfl
  have c1 := hcp 1 _ rfl
  have c2 := hcp 2 _ rfl
  clear hcp
  have z0 := hr.key
  have z1 := hr.stat
  have z2 := hr.pos
  have Hn := Lib.hid (show nameB (geta l k) = (!keyB (geta l k).key || !keyB (geta l k).stat || (decide ((geta l k).pos.size ≠ 0) && !keyB (geta l k).pos)) from rfl)
  clear hr
  generalize (geta l k).key = s0 at *
  generalize (geta l k).stat = s1 at *
  generalize (geta l k).pos = s2 at *
  cases b0 : keyB s0
  · have Hq := Lib.hid (show true = nameB (geta l k) by rw [Hn.out, b0]; rfl)
    have B0 := Lib.hid b0
    go_wp2_with (go_at_call 41; go_must (refine (key_is _ _ B0.out _ z0).mono ?_); rintro e w1 ⟨rfl, rfl⟩)
    refine Met.intro (hS _ _ ?_)
    exact ⟨true, Fr.of _ rfl ⟨rfl, rfl, rfl, rfl, rfl, rfl, rfl, trivial⟩, Hq.out, hM⟩
  cases b1 : keyB s1
  · have Hq := Lib.hid (show true = nameB (geta l k) by rw [Hn.out, b0, b1]; rfl)
    have B0 := Lib.hid b0
    have B1 := Lib.hid b1
    clear b0 b1
    go_wp2_with fail
    refine (key_is _ _ B0.out _ z0).mono ?_
    rintro e w1 ⟨rfl, rfl⟩
    go_wp2_with fail
    refine (key_is _ _ B1.out _ z1).mono ?_
    rintro e w1 ⟨rfl, rfl⟩
    go_wp2_with fail
    refine Met.intro (hS _ _ ?_)
    exact ⟨true, Fr.of _ rfl ⟨rfl, rfl, rfl, rfl, rfl, rfl, rfl, trivial⟩, Hq.out, hM⟩
  have B0 := Lib.hid b0
  have B1 := Lib.hid b1
  by_cases h2 : s2.size = 0
  · have Hq := Lib.hid (show false = nameB (geta l k) by rw [Hn.out, b0, b1]; simp [h2])
    have e2 := str_empty h2
    clear b0 b1 h2
    go_wp2_with fail
    refine (key_is _ _ B0.out _ z0).mono ?_
    rintro e w1 ⟨rfl, rfl⟩
    go_wp2_with fail
    refine (key_is _ _ B1.out _ z1).mono ?_
    rintro e w1 ⟨rfl, rfl⟩
    go_wp2_with fail
    refine Met.intro (hS _ _ ?_)
    exact ⟨false, Fr.of _ rfl ⟨rfl, rfl, rfl, rfl, rfl, rfl, rfl, trivial⟩, Hq.out, hM⟩
  · have e2 := str_full h2
    have e3 : (!s2.toList.isEmpty) = true := by rw [e2]; rfl
    cases b2 : keyB s2
    · have Hq := Lib.hid (show true = nameB (geta l k) by rw [Hn.out, b0, b1, b2]; simp [h2])
      have B2 := Lib.hid b2
      clear b0 b1 b2 h2
      go_wp2_with fail
      refine (key_is _ _ B0.out _ z0).mono ?_
      rintro e w1 ⟨rfl, rfl⟩
      go_wp2_with fail
      refine (key_is _ _ B1.out _ z1).mono ?_
      rintro e w1 ⟨rfl, rfl⟩
      go_wp2_with fail
      refine (key_is _ _ B2.out _ z2).mono ?_
      rintro e w1 ⟨rfl, rfl⟩
      go_wp2_with fail
      refine Met.intro (hS _ _ ?_)
      exact ⟨true, Fr.of _ rfl ⟨rfl, rfl, rfl, rfl, rfl, rfl, rfl, trivial⟩, Hq.out, hM⟩
    · have Hq := Lib.hid (show false = nameB (geta l k) by rw [Hn.out, b0, b1, b2]; simp)
      have B2 := Lib.hid b2
      clear b0 b1 b2 h2
      go_wp2_with fail
      refine (key_is _ _ B0.out _ z0).mono ?_
      rintro e w1 ⟨rfl, rfl⟩
      go_wp2_with fail
      refine (key_is _ _ B1.out _ z1).mono ?_
      rintro e w1 ⟨rfl, rfl⟩
      go_wp2_with fail
      refine (key_is _ _ B2.out _ z2).mono ?_
      rintro e w1 ⟨rfl, rfl⟩
      go_wp2_with fail
      refine Met.intro (hS _ _ ?_)
      exact ⟨false, Fr.of _ rfl ⟨rfl, rfl, rfl, rfl, rfl, rfl, rfl, trivial⟩, Hq.out, hM⟩

set_option maxRecDepth 100000 in
set_option maxHeartbeats 1000000 in
theorem rp_name5 (v : Value) (l : List RuleL) (w0 : World) (k : Int) (g : Nat) (hz : ∀ r ∈ l, RuleOk r) (hl : ¬ 100 < l.length) : T3 Tryd.prog (fun a w => Fr 87 ((17, .bool true) :: [(0, v), (10, v), (11, .int .i64 l.length), (12, .int .i64 k), (3, .int .i64 k), (4, .pointer (some ⟨g, 0, none⟩))]) a ∧ (true = nameB (geta l k)) ∧ Mw w0 l k g w) (sel [1, 1, 0, 1, 4, 4, 1, 1, 0, 4, 1, 0, 4, 1, 2] rulesP) No No 0 (fun a w => Fr 87 [(2, .int .i64 (rulesE l))] a ∧ Below w0.heap.size w0 w) := by
  refine T3.leaf ?_
  rintro Q JS JX JT K hS hK hX hE hT hR a w ⟨⟨f, rfl, q17, q0, q10, q11, q12, q3, q4, _⟩, hC, hM⟩
  have He := Lib.hid (hM.ends hl (by rw [show ruleAt l k = 5 from if_pos hC.symm]; decide))
  have Hv := Lib.hid (show ruleAt l k = 5 by rw [show ruleAt l k = 5 from if_pos hC.symm])
  have hb := hM.bel
  clear hC
  rw [frame87, show f 17 = .bool true from q17, show f 0 = v from q0, show f 10 = v from q10, show f 11 = .int .i64 l.length from q11, show f 12 = .int .i64 k from q12, show f 3 = .int .i64 k from q3, show f 4 = .pointer (some ⟨g, 0, none⟩) from q4]
  clear q17 q0 q10 q11 q12 q3 q4
  conv => arg 2; whnf
  go_wp2_with fail
  refine Met.intro (hT _ _ ?_)
  exact ⟨Fr.of _ rfl ⟨by rw [He.out, Hv.out]; rfl, trivial⟩, hb⟩

set_option maxRecDepth 100000 in
set_option maxHeartbeats 1000000 in
theorem rp_order (v : Value) (l : List RuleL) (w0 : World) (k : Int) (g : Nat) (hz : ∀ r ∈ l, RuleOk r) (hl : ¬ 100 < l.length) (hrow : l.length = 0 ∨ ∃ b off cap, v = .slice (some ⟨b, off, none⟩) l.length cap ∧ b < w0.heap.size ∧ (l.length ≤ cap ∧ cap ≤ 9223372036854775807) ∧ ∀ i : Int, 0 ≤ i → i < l.length → ∀ j u, (encR (geta l i))[j]? = some u → w0.cell? ⟨b, off + i.toNat * 7 + j, none⟩ = some u) : T3 Tryd.prog (fun a w => (false = nameB (geta l k)) ∧ Mw w0 l k g w ∧ Fr 87 ([(0, v), (10, v), (11, .int .i64 l.length), (12, .int .i64 k), (3, .int .i64 k), (4, .pointer (some ⟨g, 0, none⟩))]) a) (sel [1, 1, 0, 1, 4, 4, 1, 1, 0, 4, 1, 0, 4, 1, 3, 0] rulesP)
    (fun a w => ∃ q, Fr 87 ((39, .bool q) :: [(0, v), (10, v), (11, .int .i64 l.length), (12, .int .i64 k), (3, .int .i64 k), (4, .pointer (some ⟨g, 0, none⟩))]) a ∧ ((q = orderB l k ∧ false = nameB (geta l k)) ∧ Mw w0 l k g w)) No 0
    (fun a w => Fr 87 [(2, .int .i64 (rulesE l))] a ∧ Below w0.heap.size w0 w) := by
  refine T3.leaf ?_
  rintro Q JS JX JT K hS hK hX hE hT hR a w ⟨hC, hM, ⟨f, rfl, q0, q10, q11, q12, q3, q4, _⟩⟩
  have HC := Lib.hid hC
  clear hC
  have hr := hz _ (geta_mem hM.k0 hM.k1)
  have hk0 := hM.k0
  have hk1 := hM.k1
  have hcp := hM.copy.2
  rw [frame87, show f 0 = v from q0, show f 10 = v from q10, show f 11 = .int .i64 l.length from q11, show f 12 = .int .i64 k from q12, show f 3 = .int .i64 k from q3, show f 4 = .pointer (some ⟨g, 0, none⟩) from q4]
  clear q0 q10 q11 q12 q3 q4
  conv => arg 2; whnf
  have c0 := hcp 0 _ rfl
  clear hcp hr
  have Ho := Lib.hid (show orderB l k = (decide (0 < k) && leB (geta l k).key (geta l (k - 1)).key) from rfl)
  by_cases hp : 0 < k
  · rcases hrow with hrow | ⟨b, off, cap, rfl, hbs, hcm, hcell⟩
    · omega
    have pp := hcell (k - 1) (by omega) (by omega) 0 _ rfl
    rw [Nat.add_zero] at pp
    have p0 := (hM.bel.cell (p := ⟨b, off + (k - 1).toNat * 7, none⟩) hbs).trans pp
    clear pp
    rw [show (k - 1).toNat = k.toNat - 1 by omega] at p0
    clear hcell
    generalize (geta l k).key = s0 at *
    generalize (geta l (k - 1)).key = s1 at *
    cases hle : leB s0 s1
    · have Hq := Lib.hid (show false = orderB l k by rw [Ho.out, hle]; simp)
      unfold leB at hle
      go_wp2_with fail
      go_quiet (fail)
      go_wp2_with fail
      refine Met.intro (hS _ _ ?_)
      exact ⟨false, Fr.of _ rfl ⟨rfl, rfl, rfl, rfl, rfl, rfl, rfl, trivial⟩, ⟨Hq.out, HC.out⟩, hM.drewN _⟩
    · have Hq := Lib.hid (show true = orderB l k by rw [Ho.out, hle]; simp [hp])
      unfold leB at hle
      go_wp2_with fail
      go_quiet (fail)
      go_wp2_with fail
      refine Met.intro (hS _ _ ?_)
      exact ⟨true, Fr.of _ rfl ⟨rfl, rfl, rfl, rfl, rfl, rfl, rfl, trivial⟩, ⟨Hq.out, HC.out⟩, hM.drewN _⟩
  · have Hq := Lib.hid (show false = orderB l k by rw [Ho.out]; simp [hp])
    have hpb : decide (0 < k) = false := by simp; omega
    clear hrow
    generalize (geta l k).key = s0 at *
    go_wp2_with fail
    go_quiet (fail)
    go_wp2_with fail
    refine Met.intro (hS _ _ ?_)
    exact ⟨false, Fr.of _ rfl ⟨rfl, rfl, rfl, rfl, rfl, rfl, rfl, trivial⟩, ⟨Hq.out, HC.out⟩, hM.drewN _⟩

set_option maxRecDepth 100000 in
set_option maxHeartbeats 1000000 in
theorem rp_order7 (v : Value) (l : List RuleL) (w0 : World) (k : Int) (g : Nat) (hz : ∀ r ∈ l, RuleOk r) (hl : ¬ 100 < l.length) : T3 Tryd.prog (fun a w => Fr 87 ((39, .bool true) :: [(0, v), (10, v), (11, .int .i64 l.length), (12, .int .i64 k), (3, .int .i64 k), (4, .pointer (some ⟨g, 0, none⟩))]) a ∧ (true = orderB l k ∧ false = nameB (geta l k)) ∧ Mw w0 l k g w) (sel [1, 1, 0, 1, 4, 4, 1, 1, 0, 4, 1, 0, 4, 1, 3, 1, 2] rulesP) No No 0 (fun a w => Fr 87 [(2, .int .i64 (rulesE l))] a ∧ Below w0.heap.size w0 w) := by
  refine T3.leaf ?_
  rintro Q JS JX JT K hS hK hX hE hT hR a w ⟨⟨f, rfl, q39, q0, q10, q11, q12, q3, q4, _⟩, hC, hM⟩
  have He := Lib.hid (hM.ends hl (by rw [show ruleAt l k = 7 by unfold ruleAt; rw [if_neg (by rw [← hC.2]; decide), if_pos hC.1.symm]]; decide))
  have Hv := Lib.hid (show ruleAt l k = 7 by rw [show ruleAt l k = 7 by unfold ruleAt; rw [if_neg (by rw [← hC.2]; decide), if_pos hC.1.symm]])
  have hb := hM.bel
  clear hC
  rw [frame87, show f 39 = .bool true from q39, show f 0 = v from q0, show f 10 = v from q10, show f 11 = .int .i64 l.length from q11, show f 12 = .int .i64 k from q12, show f 3 = .int .i64 k from q3, show f 4 = .pointer (some ⟨g, 0, none⟩) from q4]
  clear q39 q0 q10 q11 q12 q3 q4
  conv => arg 2; whnf
  go_wp2_with fail
  refine Met.intro (hT _ _ ?_)
  exact ⟨Fr.of _ rfl ⟨by rw [He.out, Hv.out]; rfl, trivial⟩, hb⟩

set_option maxRecDepth 100000 in
set_option maxHeartbeats 1000000 in
theorem rp_kind (v : Value) (l : List RuleL) (w0 : World) (k : Int) (g : Nat) (hz : ∀ r ∈ l, RuleOk r) (hl : ¬ 100 < l.length) : T3 Tryd.prog (fun a w => (false = orderB l k ∧ false = nameB (geta l k)) ∧ Mw w0 l k g w ∧ Fr 87 ([(0, v), (10, v), (11, .int .i64 l.length), (12, .int .i64 k), (3, .int .i64 k), (4, .pointer (some ⟨g, 0, none⟩))]) a) (sel [1, 1, 0, 1, 4, 4, 1, 1, 0, 4, 1, 0, 4, 1, 3, 1, 3, 0] rulesP)
    (fun a w => ∃ q, Fr 87 ((53, .bool q) :: [(0, v), (10, v), (11, .int .i64 l.length), (12, .int .i64 k), (3, .int .i64 k), (4, .pointer (some ⟨g, 0, none⟩))]) a ∧ ((q = kindB (geta l k) ∧ false = orderB l k ∧ false = nameB (geta l k)) ∧ Mw w0 l k g w)) No 0
    (fun a w => Fr 87 [(2, .int .i64 (rulesE l))] a ∧ Below w0.heap.size w0 w) := by
  refine T3.leaf ?_
  rintro Q JS JX JT K hS hK hX hE hT hR a w ⟨hC, hM, ⟨f, rfl, q0, q10, q11, q12, q3, q4, _⟩⟩
  have HC := Lib.hid hC
  clear hC
  have hr := hz _ (geta_mem hM.k0 hM.k1)
  have hk0 := hM.k0
  have hk1 := hM.k1
  have hcp := hM.copy.2
  rw [frame87, show f 0 = v from q0, show f 10 = v from q10, show f 11 = .int .i64 l.length from q11, show f 12 = .int .i64 k from q12, show f 3 = .int .i64 k from q3, show f 4 = .pointer (some ⟨g, 0, none⟩) from q4]
  clear q0 q10 q11 q12 q3 q4
  conv => arg 2; whnf
  have c3 := hcp 3 _ rfl
  clear hcp hr
  have Ho := Lib.hid (show kindB (geta l k) = outB (geta l k).kind 1 4 from rfl)
  generalize (geta l k).kind = n0 at *
  cases ho : outB n0 1 4
  · have Hq := Lib.hid (show false = kindB (geta l k) by rw [Ho.out, ho])
    have ho := Lib.hid ho
    go_wp2_with (go_at_call 43; refine (out_is _ _ _ _ ho.out _).mono ?_; rintro e w1 ⟨rfl, rfl⟩)
    refine Met.intro (hS _ _ ?_)
    exact ⟨false, Fr.of _ rfl ⟨rfl, rfl, rfl, rfl, rfl, rfl, rfl, trivial⟩, ⟨Hq.out, HC.out⟩, hM⟩
  · have Hq := Lib.hid (show true = kindB (geta l k) by rw [Ho.out, ho])
    have ho := Lib.hid ho
    go_wp2_with (go_at_call 43; refine (out_is _ _ _ _ ho.out _).mono ?_; rintro e w1 ⟨rfl, rfl⟩)
    refine Met.intro (hS _ _ ?_)
    exact ⟨true, Fr.of _ rfl ⟨rfl, rfl, rfl, rfl, rfl, rfl, rfl, trivial⟩, ⟨Hq.out, HC.out⟩, hM⟩

set_option maxRecDepth 100000 in
set_option maxHeartbeats 1000000 in
theorem rp_kind4 (v : Value) (l : List RuleL) (w0 : World) (k : Int) (g : Nat) (hz : ∀ r ∈ l, RuleOk r) (hl : ¬ 100 < l.length) : T3 Tryd.prog (fun a w => Fr 87 ((53, .bool true) :: [(0, v), (10, v), (11, .int .i64 l.length), (12, .int .i64 k), (3, .int .i64 k), (4, .pointer (some ⟨g, 0, none⟩))]) a ∧ (true = kindB (geta l k) ∧ false = orderB l k ∧ false = nameB (geta l k)) ∧ Mw w0 l k g w) (sel [1, 1, 0, 1, 4, 4, 1, 1, 0, 4, 1, 0, 4, 1, 3, 1, 3, 1, 2] rulesP) No No 0 (fun a w => Fr 87 [(2, .int .i64 (rulesE l))] a ∧ Below w0.heap.size w0 w) := by
  refine T3.leaf ?_
  rintro Q JS JX JT K hS hK hX hE hT hR a w ⟨⟨f, rfl, q53, q0, q10, q11, q12, q3, q4, _⟩, hC, hM⟩
  have He := Lib.hid (hM.ends hl (by rw [show ruleAt l k = 4 by unfold ruleAt; rw [if_neg (by rw [← hC.2.2]; decide), if_neg (by rw [← hC.2.1]; decide), if_pos hC.1.symm]]; decide))
  have Hv := Lib.hid (show ruleAt l k = 4 by rw [show ruleAt l k = 4 by unfold ruleAt; rw [if_neg (by rw [← hC.2.2]; decide), if_neg (by rw [← hC.2.1]; decide), if_pos hC.1.symm]])
  have hb := hM.bel
  clear hC
  rw [frame87, show f 53 = .bool true from q53, show f 0 = v from q0, show f 10 = v from q10, show f 11 = .int .i64 l.length from q11, show f 12 = .int .i64 k from q12, show f 3 = .int .i64 k from q3, show f 4 = .pointer (some ⟨g, 0, none⟩) from q4]
  clear q53 q0 q10 q11 q12 q3 q4
  conv => arg 2; whnf
  go_wp2_with fail
  refine Met.intro (hT _ _ ?_)
  exact ⟨Fr.of _ rfl ⟨by rw [He.out, Hv.out]; rfl, trivial⟩, hb⟩

set_option maxRecDepth 100000 in
set_option maxHeartbeats 1000000 in
theorem rp_m2 (v : Value) (l : List RuleL) (w0 : World) (k : Int) (g : Nat) (hz : ∀ r ∈ l, RuleOk r) (hl : ¬ 100 < l.length) : T3 Tryd.prog (fun a w => (false = kindB (geta l k) ∧ false = orderB l k ∧ false = nameB (geta l k)) ∧ Mw w0 l k g w ∧ Fr 87 ([(0, v), (10, v), (11, .int .i64 l.length), (12, .int .i64 k), (3, .int .i64 k), (4, .pointer (some ⟨g, 0, none⟩))]) a) (sel [1, 1, 0, 1, 4, 4, 1, 1, 0, 4, 1, 1, 0] rulesP)
    (fun a w => (false = kindB (geta l k) ∧ false = orderB l k ∧ false = nameB (geta l k)) ∧ Mw w0 l k g w ∧ Fr 87 ((5, .bool (many2 (geta l k))) :: [(0, v), (10, v), (11, .int .i64 l.length), (12, .int .i64 k), (3, .int .i64 k), (4, .pointer (some ⟨g, 0, none⟩))]) a) No 0
    (fun a w => Fr 87 [(2, .int .i64 (rulesE l))] a ∧ Below w0.heap.size w0 w) := by
  refine T3.leaf ?_
  rintro Q JS JX JT K hS hK hX hE hT hR a w ⟨hC, hM, ⟨f, rfl, q0, q10, q11, q12, q3, q4, _⟩⟩
  have HC := Lib.hid hC
  clear hC
  have hr := hz _ (geta_mem hM.k0 hM.k1)
  have hk0 := hM.k0
  have hk1 := hM.k1
  have hcp := hM.copy.2
  rw [frame87, show f 0 = v from q0, show f 10 = v from q10, show f 11 = .int .i64 l.length from q11, show f 12 = .int .i64 k from q12, show f 3 = .int .i64 k from q3, show f 4 = .pointer (some ⟨g, 0, none⟩) from q4]
  clear q0 q10 q11 q12 q3 q4
  conv => arg 2; whnf
  have c3 := hcp 3 _ rfl
  clear hcp hr
  have Ho := Lib.hid (show many2 (geta l k) = ((geta l k).kind == 2 || (geta l k).kind == 3) from rfl)
  generalize (geta l k).kind = n0 at *
  cases e1 : (n0 == 2)
  · cases e2 : (n0 == 3)
    · have Hq := Lib.hid (show false = many2 (geta l k) by rw [Ho.out, e1, e2]; rfl)
      go_wp2_with fail
      refine Met.intro (hS _ _ ?_)
      exact ⟨HC.out, hM, Fr.of _ rfl ⟨by rw [← Hq.out]; rfl, rfl, rfl, rfl, rfl, rfl, rfl, trivial⟩⟩
    · have Hq := Lib.hid (show true = many2 (geta l k) by rw [Ho.out, e1, e2]; rfl)
      go_wp2_with fail
      refine Met.intro (hS _ _ ?_)
      exact ⟨HC.out, hM, Fr.of _ rfl ⟨by rw [← Hq.out]; rfl, rfl, rfl, rfl, rfl, rfl, rfl, trivial⟩⟩
  · have Hq := Lib.hid (show true = many2 (geta l k) by rw [Ho.out, e1]; rfl)
    go_wp2_with fail
    refine Met.intro (hS _ _ ?_)
    exact ⟨HC.out, hM, Fr.of _ rfl ⟨by rw [← Hq.out]; rfl, rfl, rfl, rfl, rfl, rfl, rfl, trivial⟩⟩

set_option maxRecDepth 100000 in
set_option maxHeartbeats 1000000 in
theorem rp_many (v : Value) (l : List RuleL) (w0 : World) (k : Int) (g : Nat) (hz : ∀ r ∈ l, RuleOk r) (hl : ¬ 100 < l.length) : T3 Tryd.prog (fun a w => (false = kindB (geta l k) ∧ false = orderB l k ∧ false = nameB (geta l k)) ∧ Mw w0 l k g w ∧ Fr 87 ([(5, .bool (many2 (geta l k))), (0, v), (10, v), (11, .int .i64 l.length), (12, .int .i64 k), (3, .int .i64 k), (4, .pointer (some ⟨g, 0, none⟩))]) a) (sel [1, 1, 0, 1, 4, 4, 1, 1, 0, 4, 1, 1, 1, 0, 0] rulesP)
    (fun a w => ∃ q, Fr 87 ((79, .bool q) :: [(0, v), (10, v), (11, .int .i64 l.length), (12, .int .i64 k), (3, .int .i64 k), (4, .pointer (some ⟨g, 0, none⟩))]) a ∧ ((q = manyBad (geta l k) ∧ false = kindB (geta l k) ∧ false = orderB l k ∧ false = nameB (geta l k)) ∧ Mw w0 l k g w)) No 0
    (fun a w => Fr 87 [(2, .int .i64 (rulesE l))] a ∧ Below w0.heap.size w0 w) := by
  refine T3.leaf ?_
  rintro Q JS JX JT K hS hK hX hE hT hR a w ⟨hC, hM, ⟨f, rfl, q5, q0, q10, q11, q12, q3, q4, _⟩⟩
  have HC := Lib.hid hC
  clear hC
  have hr := hz _ (geta_mem hM.k0 hM.k1)
  have hk0 := hM.k0
  have hk1 := hM.k1
  have hcp := hM.copy.2
  rw [frame87, show f 5 = .bool (many2 (geta l k)) from q5, show f 0 = v from q0, show f 10 = v from q10, show f 11 = .int .i64 l.length from q11, show f 12 = .int .i64 k from q12, show f 3 = .int .i64 k from q3, show f 4 = .pointer (some ⟨g, 0, none⟩) from q4]
  clear q5 q0 q10 q11 q12 q3 q4
  conv => arg 2; whnf
  have c4 := hcp 4 _ rfl
  clear hcp hr
  have Hm := Lib.hid (show manyBad (geta l k) = if many2 (geta l k) = true then outB (geta l k).many 1 100000 else (geta l k).many != 0 from rfl)
  generalize (geta l k).many = n1 at *
  cases hm2 : many2 (geta l k)
  · cases hn : (n1 != 0)
    · have Hq := Lib.hid (show false = manyBad (geta l k) by rw [Hm.out, hm2, hn]; rfl)
      go_wp2_with fail
      refine Met.intro (hS _ _ ?_)
      exact ⟨false, Fr.of _ rfl ⟨rfl, rfl, rfl, rfl, rfl, rfl, rfl, trivial⟩, ⟨Hq.out, HC.out⟩, hM⟩
    · have Hq := Lib.hid (show true = manyBad (geta l k) by rw [Hm.out, hm2, hn]; rfl)
      go_wp2_with fail
      refine Met.intro (hS _ _ ?_)
      exact ⟨true, Fr.of _ rfl ⟨rfl, rfl, rfl, rfl, rfl, rfl, rfl, trivial⟩, ⟨Hq.out, HC.out⟩, hM⟩
  · cases ho : outB n1 1 100000
    · have Hq := Lib.hid (show false = manyBad (geta l k) by rw [Hm.out, hm2, ho]; rfl)
      have ho := Lib.hid ho
      go_wp2_with (go_at_call 43; refine (out_is _ _ _ _ ho.out _).mono ?_; rintro e w1 ⟨rfl, rfl⟩)
      refine Met.intro (hS _ _ ?_)
      exact ⟨false, Fr.of _ rfl ⟨rfl, rfl, rfl, rfl, rfl, rfl, rfl, trivial⟩, ⟨Hq.out, HC.out⟩, hM⟩
    · have Hq := Lib.hid (show true = manyBad (geta l k) by rw [Hm.out, hm2, ho]; rfl)
      have ho := Lib.hid ho
      go_wp2_with (go_at_call 43; refine (out_is _ _ _ _ ho.out _).mono ?_; rintro e w1 ⟨rfl, rfl⟩)
      refine Met.intro (hS _ _ ?_)
      exact ⟨true, Fr.of _ rfl ⟨rfl, rfl, rfl, rfl, rfl, rfl, rfl, trivial⟩, ⟨Hq.out, HC.out⟩, hM⟩

set_option maxRecDepth 100000 in
set_option maxHeartbeats 1000000 in
theorem rp_many1 (v : Value) (l : List RuleL) (w0 : World) (k : Int) (g : Nat) (hz : ∀ r ∈ l, RuleOk r) (hl : ¬ 100 < l.length) : T3 Tryd.prog (fun a w => Fr 87 ((79, .bool true) :: [(0, v), (10, v), (11, .int .i64 l.length), (12, .int .i64 k), (3, .int .i64 k), (4, .pointer (some ⟨g, 0, none⟩))]) a ∧ (true = manyBad (geta l k) ∧ false = kindB (geta l k) ∧ false = orderB l k ∧ false = nameB (geta l k)) ∧ Mw w0 l k g w) (sel [1, 1, 0, 1, 4, 4, 1, 1, 0, 4, 1, 1, 1, 0, 1, 2] rulesP) No No 0 (fun a w => Fr 87 [(2, .int .i64 (rulesE l))] a ∧ Below w0.heap.size w0 w) := by
  refine T3.leaf ?_
  rintro Q JS JX JT K hS hK hX hE hT hR a w ⟨⟨f, rfl, q79, q0, q10, q11, q12, q3, q4, _⟩, hC, hM⟩
  have Hv := Lib.hid (show ruleAt l k = 1 by unfold ruleAt; rw [if_neg (by rw [← hC.2.2.2]; decide), if_neg (by rw [← hC.2.2.1]; decide), if_neg (by rw [← hC.2.1]; decide), if_pos hC.1.symm])
  have He := Lib.hid (hM.ends hl (by rw [Hv.out]; decide))
  have hb := hM.bel
  clear hC
  rw [frame87, show f 79 = .bool true from q79, show f 0 = v from q0, show f 10 = v from q10, show f 11 = .int .i64 l.length from q11, show f 12 = .int .i64 k from q12, show f 3 = .int .i64 k from q3, show f 4 = .pointer (some ⟨g, 0, none⟩) from q4]
  clear q79 q0 q10 q11 q12 q3 q4
  conv => arg 2; whnf
  go_wp2_with fail
  refine Met.intro (hT _ _ ?_)
  exact ⟨Fr.of _ rfl ⟨by rw [He.out, Hv.out]; rfl, trivial⟩, hb⟩

set_option maxRecDepth 100000 in
set_option maxHeartbeats 1000000 in
theorem rp_amt (v : Value) (l : List RuleL) (w0 : World) (k : Int) (g : Nat) (hz : ∀ r ∈ l, RuleOk r) (hl : ¬ 100 < l.length) : T3 Tryd.prog (fun a w => (false = manyBad (geta l k) ∧ false = kindB (geta l k) ∧ false = orderB l k ∧ false = nameB (geta l k)) ∧ Mw w0 l k g w ∧ Fr 87 ([(0, v), (10, v), (11, .int .i64 l.length), (12, .int .i64 k), (3, .int .i64 k), (4, .pointer (some ⟨g, 0, none⟩))]) a) (sel [1, 1, 0, 1, 4, 4, 1, 1, 0, 4, 1, 1, 1, 1, 0] rulesP)
    (fun a w => (false = manyBad (geta l k) ∧ false = kindB (geta l k) ∧ false = orderB l k ∧ false = nameB (geta l k)) ∧ Mw w0 l k g w ∧ Fr 87 ((6, .int .i64 (amountE (geta l k).num (geta l k).den 10000)) :: [(0, v), (10, v), (11, .int .i64 l.length), (12, .int .i64 k), (3, .int .i64 k), (4, .pointer (some ⟨g, 0, none⟩))]) a) No 0
    (fun a w => Fr 87 [(2, .int .i64 (rulesE l))] a ∧ Below w0.heap.size w0 w) := by
  refine T3.leaf ?_
  rintro Q JS JX JT K hS hK hX hE hT hR a w ⟨hC, hM, ⟨f, rfl, q0, q10, q11, q12, q3, q4, _⟩⟩
  have HC := Lib.hid hC
  clear hC
  have hr := hz _ (geta_mem hM.k0 hM.k1)
  have hk0 := hM.k0
  have hk1 := hM.k1
  have hcp := hM.copy.2
  rw [frame87, show f 0 = v from q0, show f 10 = v from q10, show f 11 = .int .i64 l.length from q11, show f 12 = .int .i64 k from q12, show f 3 = .int .i64 k from q3, show f 4 = .pointer (some ⟨g, 0, none⟩) from q4]
  clear q0 q10 q11 q12 q3 q4
  conv => arg 2; whnf
  have c5 := hcp 5 _ rfl
  have c6 := hcp 6 _ rfl
  clear hcp
  have y0 := hr.num0
  have y1 := hr.num1
  have y2 := hr.den0
  have y3 := hr.den1
  clear hr
  generalize (geta l k).num = n1 at *
  generalize (geta l k).den = n2 at *
  go_wp2_with (go_at_call 44; refine (amount_prog n1 n2 10000 _ y0 y1 y2 y3 (by decide) (by decide)).mono ?_; rintro e w1 ⟨rfl, hb⟩; replace hM := hM.below hb; clear hb)
  refine Met.intro (hS _ _ ?_)
  exact ⟨HC.out, hM, Fr.of _ rfl ⟨rfl, rfl, rfl, rfl, rfl, rfl, rfl, trivial⟩⟩

set_option maxRecDepth 100000 in
set_option maxHeartbeats 1000000 in
theorem rp_amt2 (v : Value) (l : List RuleL) (w0 : World) (k : Int) (g : Nat) (hz : ∀ r ∈ l, RuleOk r) (hl : ¬ 100 < l.length) : T3 Tryd.prog (fun a w => (false = manyBad (geta l k) ∧ false = kindB (geta l k) ∧ false = orderB l k ∧ false = nameB (geta l k)) ∧ Mw w0 l k g w ∧ Fr 87 ([(6, .int .i64 (amountE (geta l k).num (geta l k).den 10000)), (0, v), (10, v), (11, .int .i64 l.length), (12, .int .i64 k), (3, .int .i64 k), (4, .pointer (some ⟨g, 0, none⟩))]) a) (sel [1, 1, 0, 1, 4, 4, 1, 1, 0, 4, 1, 1, 1, 1, 1, 0] rulesP)
    (fun a w => ∃ q, Fr 87 ((84, .bool q) :: [(6, .int .i64 (amountE (geta l k).num (geta l k).den 10000)), (0, v), (10, v), (11, .int .i64 l.length), (12, .int .i64 k), (3, .int .i64 k), (4, .pointer (some ⟨g, 0, none⟩))]) a ∧ (((q = true ↔ (amountE (geta l k).num (geta l k).den 10000) ≠ 0) ∧ false = manyBad (geta l k) ∧ false = kindB (geta l k) ∧ false = orderB l k ∧ false = nameB (geta l k)) ∧ Mw w0 l k g w)) No 0
    (fun a w => Fr 87 [(2, .int .i64 (rulesE l))] a ∧ Below w0.heap.size w0 w) := by
  refine T3.leaf ?_
  rintro Q JS JX JT K hS hK hX hE hT hR a w ⟨hC, hM, ⟨f, rfl, q6, q0, q10, q11, q12, q3, q4, _⟩⟩
  have HC := Lib.hid hC
  clear hC
  have hr := hz _ (geta_mem hM.k0 hM.k1)
  have hk0 := hM.k0
  have hk1 := hM.k1
  have hcp := hM.copy.2
  rw [frame87, show f 6 = .int .i64 (amountE (geta l k).num (geta l k).den 10000) from q6, show f 0 = v from q0, show f 10 = v from q10, show f 11 = .int .i64 l.length from q11, show f 12 = .int .i64 k from q12, show f 3 = .int .i64 k from q3, show f 4 = .pointer (some ⟨g, 0, none⟩) from q4]
  clear q6 q0 q10 q11 q12 q3 q4
  conv => arg 2; whnf
  clear hcp hr
  generalize hx : amountE (geta l k).num (geta l k).den 10000 = x at *
  have Hx := Lib.hid hx
  clear hx
  cases hn : (x != 0)
  · have Hq := Lib.hid (show x = 0 by simpa using hn)
    go_wp2_with fail
    refine Met.intro (hS _ _ ?_)
    exact ⟨false, Fr.of _ rfl ⟨rfl, rfl, rfl, rfl, rfl, rfl, rfl, rfl, trivial⟩, ⟨by simpa using Hq.out, HC.out⟩, hM⟩
  · have Hq := Lib.hid (show x ≠ 0 by simpa using hn)
    go_wp2_with fail
    refine Met.intro (hS _ _ ?_)
    exact ⟨true, Fr.of _ rfl ⟨rfl, rfl, rfl, rfl, rfl, rfl, rfl, rfl, trivial⟩, ⟨by simpa using Hq.out, HC.out⟩, hM⟩

set_option maxRecDepth 100000 in
set_option maxHeartbeats 1000000 in
theorem rp_amtR (v : Value) (l : List RuleL) (w0 : World) (k : Int) (g : Nat) (hz : ∀ r ∈ l, RuleOk r) (hl : ¬ 100 < l.length) : T3 Tryd.prog (fun a w => Fr 87 ((84, .bool true) :: [(6, .int .i64 (amountE (geta l k).num (geta l k).den 10000)), (0, v), (10, v), (11, .int .i64 l.length), (12, .int .i64 k), (3, .int .i64 k), (4, .pointer (some ⟨g, 0, none⟩))]) a ∧ ((amountE (geta l k).num (geta l k).den 10000) ≠ 0 ∧ false = manyBad (geta l k) ∧ false = kindB (geta l k) ∧ false = orderB l k ∧ false = nameB (geta l k)) ∧ Mw w0 l k g w) (sel [1, 1, 0, 1, 4, 4, 1, 1, 0, 4, 1, 1, 1, 1, 1, 1, 2] rulesP) No No 0 (fun a w => Fr 87 [(2, .int .i64 (rulesE l))] a ∧ Below w0.heap.size w0 w) := by
  refine T3.leaf ?_
  rintro Q JS JX JT K hS hK hX hE hT hR a w ⟨⟨f, rfl, q84, q6, q0, q10, q11, q12, q3, q4, _⟩, hC, hM⟩
  have hC1 := hC.1
  have Hv := Lib.hid (show ruleAt l k = (amountE (geta l k).num (geta l k).den 10000) by unfold ruleAt; rw [if_neg (by rw [← hC.2.2.2.2]; decide), if_neg (by rw [← hC.2.2.2.1]; decide), if_neg (by rw [← hC.2.2.1]; decide), if_neg (by rw [← hC.2.1]; decide)])
  have He := Lib.hid (hM.ends hl (by rw [Hv.out]; exact hC1))
  have hb := hM.bel
  clear hC hC1
  rw [frame87, show f 84 = .bool true from q84, show f 6 = .int .i64 (amountE (geta l k).num (geta l k).den 10000) from q6, show f 0 = v from q0, show f 10 = v from q10, show f 11 = .int .i64 l.length from q11, show f 12 = .int .i64 k from q12, show f 3 = .int .i64 k from q3, show f 4 = .pointer (some ⟨g, 0, none⟩) from q4]
  clear q84 q6 q0 q10 q11 q12 q3 q4
  conv => arg 2; whnf
  go_wp2_with fail
  refine Met.intro (hT _ _ ?_)
  exact ⟨Fr.of _ rfl ⟨by rw [He.out, Hv.out]; rfl, trivial⟩, hb⟩

def rpI (v : Value) (l : List RuleL) (w0 : World) (k : Int) (a : Act) (w : World) : Prop := (0 ≤ k ∧ k ≤ l.length ∧ NoErr (ruleAt l) k) ∧ Below w0.heap.size w0 w ∧ Fr 87 [(0, v), (10, v), (11, .int .i64 l.length), (12, .int .i64 k)] a
set_option maxRecDepth 100000 in
set_option maxHeartbeats 1000000 in
theorem rp_next (v : Value) (l : List RuleL) (w0 : World) (k : Int) (h100 : ¬ 100 < l.length) : T3 Tryd.prog (fun a w => (0 ≤ k ∧ k < l.length ∧ NoErr (ruleAt l) (k + 1)) ∧ Below w0.heap.size w0 w ∧ Fr 87 [(0, v), (10, v), (11, .int .i64 l.length), (12, .int .i64 k)] a) (sel [1, 1, 0, 1, 4, 4, 1, 1, 1] rulesP) (rpI v l w0 (k + 1)) No 0 (fun a w => Fr 87 [(2, .int .i64 (rulesE l))] a ∧ Below w0.heap.size w0 w) := by
  refine T3.leaf ?_
  rintro Q JS JX JT K hS hK hX hE hT hR a w ⟨⟨hk0, hk1, hst⟩, hb, ⟨f, rfl, q0, q10, q11, q12, _⟩⟩
  have hst := Lib.hid hst
  rw [frame87, show f 0 = v from q0, show f 10 = v from q10, show f 11 = .int .i64 l.length from q11, show f 12 = .int .i64 k from q12]
  clear q0 q10 q11 q12
  conv => arg 2; whnf
  go_wp2_with fail
  refine Met.intro (hS _ _ ?_)
  exact ⟨⟨by omega, by omega, hst.out⟩, hb, Fr.of _ rfl ⟨rfl, rfl, rfl, rfl, trivial⟩⟩

theorem rp_last (v : Value) (l : List RuleL) (w0 : World) (k : Int) (g : Nat) (hz : ∀ r ∈ l, RuleOk r) (hl : ¬ 100 < l.length) (a : Act) (w : World) (h : ((amountE (geta l k).num (geta l k).den 10000) = 0 ∧ false = manyBad (geta l k) ∧ false = kindB (geta l k) ∧ false = orderB l k ∧ false = nameB (geta l k)) ∧ Mw w0 l k g w ∧ Fr 87 [(6, .int .i64 (amountE (geta l k).num (geta l k).den 10000)), (0, v), (10, v), (11, .int .i64 l.length), (12, .int .i64 k), (3, .int .i64 k), (4, .pointer (some ⟨g, 0, none⟩))] a) : (0 ≤ k ∧ k < l.length ∧ NoErr (ruleAt l) (k + 1)) ∧ Below w0.heap.size w0 w ∧ Fr 87 [(0, v), (10, v), (11, .int .i64 l.length), (12, .int .i64 k)] a := by
  obtain ⟨hC, hM, hF⟩ := h
  have ha : ruleAt l k = 0 := by
    unfold ruleAt; rw [if_neg (by rw [← hC.2.2.2.2]; decide), if_neg (by rw [← hC.2.2.2.1]; decide), if_neg (by rw [← hC.2.2.1]; decide), if_neg (by rw [← hC.2.1]; decide)]
    exact hC.1
  have hst := Lib.hid (hM.ok.step ha)
  have hk0 := hM.k0
  have hk1 := hM.k1
  have hb := hM.bel
  exact ⟨⟨hk0, hk1, hst.out⟩, hb, hF.sub (by intro p hp; simp at hp ⊢; rcases hp with h | h | h | h <;> simp [h])⟩

set_option maxRecDepth 100000 in
set_option maxHeartbeats 1000000 in
theorem rp_head (v : Value) (l : List RuleL) (w0 : World) (k : Int) : T3 Tryd.prog (rpI v l w0 k) (sel [1, 1, 0, 1, 4, 4, 0] rulesP) (fun a w => ∃ q, Fr 87 ((13, .bool q) :: [(0, v), (10, v), (11, .int .i64 l.length), (12, .int .i64 k)]) a ∧ ((q = true ↔ k < l.length) ∧ (0 ≤ k ∧ k ≤ l.length ∧ NoErr (ruleAt l) k) ∧ Below w0.heap.size w0 w)) No 0 (fun a w => Fr 87 [(2, .int .i64 (rulesE l))] a ∧ Below w0.heap.size w0 w) := by
  refine T3.leaf ?_
  rintro Q JS JX JT K hS hK hX hE hT hR a w ⟨hC, hb, ⟨f, rfl, q0, q10, q11, q12, _⟩⟩
  have HC := Lib.hid hC
  rw [frame87, show f 0 = v from q0, show f 10 = v from q10, show f 11 = .int .i64 l.length from q11, show f 12 = .int .i64 k from q12]
  clear q0 q10 q11 q12
  conv => arg 2; whnf
  by_cases hlt : k < l.length
  · go_wp2_with fail
    refine Met.intro (hS _ _ ?_)
    exact ⟨true, Fr.of _ rfl ⟨rfl, rfl, rfl, rfl, rfl, trivial⟩, ⟨fun _ => hlt, fun _ => rfl⟩, HC.out, hb⟩
  · have hpb : decide (k < l.length) = false := by simp; omega
    go_wp2_with fail
    refine Met.intro (hS _ _ ?_)
    exact ⟨false, Fr.of _ rfl ⟨rfl, rfl, rfl, rfl, rfl, trivial⟩, ⟨(fun h => by cases h), fun h => absurd h (by omega)⟩, HC.out, hb⟩

set_option maxRecDepth 100000 in
set_option maxHeartbeats 1000000 in
theorem rp_copy (v : Value) (l : List RuleL) (w0 : World) (k : Int) (hz : ∀ r ∈ l, RuleOk r)  (hrow : l.length = 0 ∨ ∃ b off cap, v = .slice (some ⟨b, off, none⟩) l.length cap ∧ b < w0.heap.size ∧ (l.length ≤ cap ∧ cap ≤ 9223372036854775807) ∧ ∀ i : Int, 0 ≤ i → i < l.length → ∀ j u, (encR (geta l i))[j]? = some u → w0.cell? ⟨b, off + i.toNat * 7 + j, none⟩ = some u) : T3 Tryd.prog (fun a w => k < l.length ∧ rpI v l w0 k a w) (sel [1, 1, 0, 1, 4, 4, 1, 1, 0, 4, 0] rulesP) (fun a w => ∃ g : Nat, True ∧ Mw w0 l k g w ∧ Fr 87 [(0, v), (10, v), (11, .int .i64 l.length), (12, .int .i64 k), (3, .int .i64 k), (4, .pointer (some ⟨g, 0, none⟩))] a) No 0 (fun a w => Fr 87 [(2, .int .i64 (rulesE l))] a ∧ Below w0.heap.size w0 w) := by
  refine T3.leaf ?_
  rintro Q JS JX JT K hS hK hX hE hT hR a w ⟨hlt, ⟨hk0, hk1, hok⟩, hb, ⟨f, rfl, q0, q10, q11, q12, _⟩⟩
  rw [frame87, show f 0 = v from q0, show f 10 = v from q10, show f 11 = .int .i64 l.length from q11, show f 12 = .int .i64 k from q12]
  clear q0 q10 q11 q12
  conv => arg 2; whnf
  rcases hrow with hrow | ⟨b, off, cap, rfl, hbs, hcm, hcell⟩
  · omega
  have tr : ∀ j u, (encR (geta l k))[j]? = some u → w.cell? ⟨b, off + k.toNat * 7 + j, none⟩ = some u := fun j u h => (hb.cell (p := ⟨b, off + k.toNat * 7 + j, none⟩) hbs).trans (hcell k hk0 hlt j u h)
  have t0 := tr 0 _ rfl
  have t1 := tr 1 _ rfl
  have t2 := tr 2 _ rfl
  have t3 := tr 3 _ rfl
  have t4 := tr 4 _ rfl
  have t5 := tr 5 _ rfl
  have t6 := tr 6 _ rfl
  rw [Nat.add_zero] at t0
  have hM : Mw w0 l k w.heap.size (w.alloc (.cells (encR (geta l k)).toArray 57)) := ⟨hk0, hlt, hok, ⟨by simp, fun j u hu => cells_new w (encR (geta l k)).toArray 57 j u (by simpa using hu)⟩, hb.alloc hb.size _⟩
  have HM := Lib.hid hM
  unfold encR at HM
  clear hM tr hcell hok
  generalize (geta l k).key = s0 at *
  generalize (geta l k).stat = s1 at *
  generalize (geta l k).pos = s2 at *
  generalize (geta l k).kind = n0 at *
  generalize (geta l k).many = n1 at *
  generalize (geta l k).num = n2 at *
  generalize (geta l k).den = n3 at *
  go_wp2_with fail
  refine Met.intro (hS _ _ ?_)
  exact ⟨_, trivial, HM.out, Fr.of _ rfl ⟨rfl, rfl, rfl, rfl, rfl, rfl, trivial⟩⟩

set_option maxRecDepth 100000 in
set_option maxHeartbeats 1000000 in
theorem rp_sw (v : Value) (l : List RuleL) (w0 : World) (k : Int) (g : Nat) (hz : ∀ r ∈ l, RuleOk r) (hl : ¬ 100 < l.length) (hrow : l.length = 0 ∨ ∃ b off cap, v = .slice (some ⟨b, off, none⟩) l.length cap ∧ b < w0.heap.size ∧ (l.length ≤ cap ∧ cap ≤ 9223372036854775807) ∧ ∀ i : Int, 0 ≤ i → i < l.length → ∀ j u, (encR (geta l i))[j]? = some u → w0.cell? ⟨b, off + i.toNat * 7 + j, none⟩ = some u) : T3 Tryd.prog (fun a w => True ∧ Mw w0 l k g w ∧ Fr 87 [(0, v), (10, v), (11, .int .i64 l.length), (12, .int .i64 k), (3, .int .i64 k), (4, .pointer (some ⟨g, 0, none⟩))] a) (sel [1, 1, 0, 1, 4, 4, 1, 1, 0, 4, 1, 0, 4] rulesP) (fun a w => (false = kindB (geta l k) ∧ false = orderB l k ∧ false = nameB (geta l k)) ∧ Mw w0 l k g w ∧ Fr 87 [(0, v), (10, v), (11, .int .i64 l.length), (12, .int .i64 k), (3, .int .i64 k), (4, .pointer (some ⟨g, 0, none⟩))] a) No 0 (fun a w => Fr 87 [(2, .int .i64 (rulesE l))] a ∧ Below w0.heap.size w0 w) :=
  T3.test (s := (sel [1, 1, 0, 1, 4, 4, 1, 1, 0, 4, 1, 0, 4, 0] rulesP)) (x := (sel [1, 1, 0, 1, 4, 4, 1, 1, 0, 4, 1, 0, 4, 1, 2] rulesP)) (y := (sel [1, 1, 0, 1, 4, 4, 1, 1, 0, 4, 1, 0, 4, 1, 3] rulesP)) (l := [(0, v), (10, v), (11, .int .i64 l.length), (12, .int .i64 k), (3, .int .i64 k), (4, .pointer (some ⟨g, 0, none⟩))]) (C := fun q => q = nameB (geta l k)) (W := Mw w0 l k g) (by decide) (rp_name v l w0 k g hz hl) (T3.noS (rp_name5 v l w0 k g hz hl)) (T3.test (s := (sel [1, 1, 0, 1, 4, 4, 1, 1, 0, 4, 1, 0, 4, 1, 3, 0] rulesP)) (x := (sel [1, 1, 0, 1, 4, 4, 1, 1, 0, 4, 1, 0, 4, 1, 3, 1, 2] rulesP)) (y := (sel [1, 1, 0, 1, 4, 4, 1, 1, 0, 4, 1, 0, 4, 1, 3, 1, 3] rulesP)) (l := [(0, v), (10, v), (11, .int .i64 l.length), (12, .int .i64 k), (3, .int .i64 k), (4, .pointer (some ⟨g, 0, none⟩))]) (C := fun q => q = orderB l k ∧ false = nameB (geta l k)) (W := Mw w0 l k g) (by decide) (rp_order v l w0 k g hz hl hrow) (T3.noS (rp_order7 v l w0 k g hz hl)) (T3.test (s := (sel [1, 1, 0, 1, 4, 4, 1, 1, 0, 4, 1, 0, 4, 1, 3, 1, 3, 0] rulesP)) (x := (sel [1, 1, 0, 1, 4, 4, 1, 1, 0, 4, 1, 0, 4, 1, 3, 1, 3, 1, 2] rulesP)) (y := .skip) (l := [(0, v), (10, v), (11, .int .i64 l.length), (12, .int .i64 k), (3, .int .i64 k), (4, .pointer (some ⟨g, 0, none⟩))]) (C := fun q => q = kindB (geta l k) ∧ false = orderB l k ∧ false = nameB (geta l k)) (W := Mw w0 l k g) (by decide) (rp_kind v l w0 k g hz hl) (T3.noS (rp_kind4 v l w0 k g hz hl)) (T3.skip (fun a w q => q))))

set_option maxRecDepth 100000 in
set_option maxHeartbeats 1000000 in
theorem rp_end (v : Value) (l : List RuleL) (w0 : World) (k : Int) (g : Nat) (hz : ∀ r ∈ l, RuleOk r) (hl : ¬ 100 < l.length) : T3 Tryd.prog (fun a w => (false = manyBad (geta l k) ∧ false = kindB (geta l k) ∧ false = orderB l k ∧ false = nameB (geta l k)) ∧ Mw w0 l k g w ∧ Fr 87 [(0, v), (10, v), (11, .int .i64 l.length), (12, .int .i64 k), (3, .int .i64 k), (4, .pointer (some ⟨g, 0, none⟩))] a) (sel [1, 1, 0, 1, 4, 4, 1, 1, 0, 4, 1, 1, 1, 1] rulesP) (fun a w => ((amountE (geta l k).num (geta l k).den 10000) = 0 ∧ false = manyBad (geta l k) ∧ false = kindB (geta l k) ∧ false = orderB l k ∧ false = nameB (geta l k)) ∧ Mw w0 l k g w ∧ Fr 87 [(6, .int .i64 (amountE (geta l k).num (geta l k).den 10000)), (0, v), (10, v), (11, .int .i64 l.length), (12, .int .i64 k), (3, .int .i64 k), (4, .pointer (some ⟨g, 0, none⟩))] a) No 0 (fun a w => Fr 87 [(2, .int .i64 (rulesE l))] a ∧ Below w0.heap.size w0 w) := by
  refine T3.post (S := fun a w => ((false = true ↔ (amountE (geta l k).num (geta l k).den 10000) ≠ 0) ∧ false = manyBad (geta l k) ∧ false = kindB (geta l k) ∧ false = orderB l k ∧ false = nameB (geta l k)) ∧ Mw w0 l k g w ∧ Fr 87 [(6, .int .i64 (amountE (geta l k).num (geta l k).den 10000)), (0, v), (10, v), (11, .int .i64 l.length), (12, .int .i64 k), (3, .int .i64 k), (4, .pointer (some ⟨g, 0, none⟩))] a) (T3.seq (s := (sel [1, 1, 0, 1, 4, 4, 1, 1, 0, 4, 1, 1, 1, 1, 0] rulesP)) (c := (sel [1, 1, 0, 1, 4, 4, 1, 1, 0, 4, 1, 1, 1, 1, 1] rulesP)) (rp_amt v l w0 k g hz hl) (T3.test (s := (sel [1, 1, 0, 1, 4, 4, 1, 1, 0, 4, 1, 1, 1, 1, 1, 0] rulesP)) (x := (sel [1, 1, 0, 1, 4, 4, 1, 1, 0, 4, 1, 1, 1, 1, 1, 1, 2] rulesP)) (y := .skip) (l := [(6, .int .i64 (amountE (geta l k).num (geta l k).den 10000)), (0, v), (10, v), (11, .int .i64 l.length), (12, .int .i64 k), (3, .int .i64 k), (4, .pointer (some ⟨g, 0, none⟩))]) (C := fun q => (q = true ↔ (amountE (geta l k).num (geta l k).den 10000) ≠ 0) ∧ false = manyBad (geta l k) ∧ false = kindB (geta l k) ∧ false = orderB l k ∧ false = nameB (geta l k)) (W := Mw w0 l k g) (by decide) (rp_amt2 v l w0 k g hz hl) (T3.noS ((rp_amtR v l w0 k g hz hl).pre (fun a w q => ⟨q.1, ⟨q.2.1.1.1 rfl, q.2.1.2⟩, q.2.2⟩))) (T3.skip (fun a w q => q)))) (fun a w q => ?_)
  obtain ⟨hC, hM, hF⟩ := q
  have hA : (amountE (geta l k).num (geta l k).den 10000) = 0 := by
    by_cases h : (amountE (geta l k).num (geta l k).den 10000) = 0
    · exact h
    · have := hC.1.2 h
      cases this
  exact ⟨⟨hA, hC.2⟩, hM, hF⟩

set_option maxRecDepth 100000 in
set_option maxHeartbeats 1000000 in
theorem rp_round (v : Value) (l : List RuleL) (w0 : World) (k : Int) (hz : ∀ r ∈ l, RuleOk r) (hl : ¬ 100 < l.length) (hrow : l.length = 0 ∨ ∃ b off cap, v = .slice (some ⟨b, off, none⟩) l.length cap ∧ b < w0.heap.size ∧ (l.length ≤ cap ∧ cap ≤ 9223372036854775807) ∧ ∀ i : Int, 0 ≤ i → i < l.length → ∀ j u, (encR (geta l i))[j]? = some u → w0.cell? ⟨b, off + i.toNat * 7 + j, none⟩ = some u) : T3 Tryd.prog (fun a w => k < l.length ∧ rpI v l w0 k a w) (sel [1, 1, 0, 1, 4, 4, 1, 1, 0, 4] rulesP) (fun a w => (0 ≤ k ∧ k < l.length ∧ NoErr (ruleAt l) (k + 1)) ∧ Below w0.heap.size w0 w ∧ Fr 87 [(0, v), (10, v), (11, .int .i64 l.length), (12, .int .i64 k)] a) No 0 (fun a w => Fr 87 [(2, .int .i64 (rulesE l))] a ∧ Below w0.heap.size w0 w) :=
  T3.seq (s := (sel [1, 1, 0, 1, 4, 4, 1, 1, 0, 4, 0] rulesP)) (c := (sel [1, 1, 0, 1, 4, 4, 1, 1, 0, 4, 1] rulesP)) (rp_copy v l w0 k hz hrow) (T3.ex fun g => T3.seq (s := (sel [1, 1, 0, 1, 4, 4, 1, 1, 0, 4, 1, 0] rulesP)) (c := (sel [1, 1, 0, 1, 4, 4, 1, 1, 0, 4, 1, 1] rulesP)) (T3.block (c := (sel [1, 1, 0, 1, 4, 4, 1, 1, 0, 4, 1, 0, 4] rulesP)) (by decide) (rp_sw v l w0 k g hz hl hrow)) (T3.seq (s := (sel [1, 1, 0, 1, 4, 4, 1, 1, 0, 4, 1, 1, 0] rulesP)) (c := (sel [1, 1, 0, 1, 4, 4, 1, 1, 0, 4, 1, 1, 1] rulesP)) (rp_m2 v l w0 k g hz hl) (T3.seq (s := (sel [1, 1, 0, 1, 4, 4, 1, 1, 0, 4, 1, 1, 1, 0] rulesP)) (c := (sel [1, 1, 0, 1, 4, 4, 1, 1, 0, 4, 1, 1, 1, 1] rulesP)) (T3.test (s := (sel [1, 1, 0, 1, 4, 4, 1, 1, 0, 4, 1, 1, 1, 0, 0] rulesP)) (x := (sel [1, 1, 0, 1, 4, 4, 1, 1, 0, 4, 1, 1, 1, 0, 1, 2] rulesP)) (y := .skip) (l := [(0, v), (10, v), (11, .int .i64 l.length), (12, .int .i64 k), (3, .int .i64 k), (4, .pointer (some ⟨g, 0, none⟩))]) (C := fun q => q = manyBad (geta l k) ∧ false = kindB (geta l k) ∧ false = orderB l k ∧ false = nameB (geta l k)) (W := Mw w0 l k g) (by decide) (rp_many v l w0 k g hz hl) (T3.noS (rp_many1 v l w0 k g hz hl)) (T3.skip (fun a w q => q))) ((rp_end v l w0 k g hz hl).post (fun a w q => rp_last v l w0 k g hz hl a w q)))))

set_option maxRecDepth 100000 in
set_option maxHeartbeats 1000000 in
theorem rp_loop (v : Value) (l : List RuleL) (w0 : World) (hz : ∀ r ∈ l, RuleOk r) (hl : ¬ 100 < l.length) (hrow : l.length = 0 ∨ ∃ b off cap, v = .slice (some ⟨b, off, none⟩) l.length cap ∧ b < w0.heap.size ∧ (l.length ≤ cap ∧ cap ≤ 9223372036854775807) ∧ ∀ i : Int, 0 ≤ i → i < l.length → ∀ j u, (encR (geta l i))[j]? = some u → w0.cell? ⟨b, off + i.toNat * 7 + j, none⟩ = some u) : T3 Tryd.prog (rpI v l w0 0) (sel [1, 1, 0, 1] rulesP) (rpI v l w0 l.length) No 9 (fun a w => Fr 87 [(2, .int .i64 (rulesE l))] a ∧ Below w0.heap.size w0 w) := by
  refine T3.loop (c := (sel [1, 1, 0, 1, 4, 4] rulesP)) (fun n a w => ∃ k : Int, (n : Int) = l.length - k ∧ rpI v l w0 k a w) (fun a w h => ⟨l.length, 0, by omega, h⟩) (fun n => T3.ex fun k => T3.pure fun hn => ?_)
  refine T3.seq (s := (sel [1, 1, 0, 1, 4, 4, 0] rulesP)) (c := (sel [1, 1, 0, 1, 4, 4, 1] rulesP)) ((rp_head v l w0 k).noX) ?_
  refine T3.seq (s := (sel [1, 1, 0, 1, 4, 4, 1, 0] rulesP)) (c := (sel [1, 1, 0, 1, 4, 4, 1, 1] rulesP)) (S := fun a w => k < l.length ∧ rpI v l w0 k a w) ?_ (T3.seq (s := (sel [1, 1, 0, 1, 4, 4, 1, 1, 0] rulesP)) (c := (sel [1, 1, 0, 1, 4, 4, 1, 1, 1] rulesP)) (T3.noX (T3.block (c := (sel [1, 1, 0, 1, 4, 4, 1, 1, 0, 4] rulesP)) (by decide) (rp_round v l w0 k hz hl hrow))) ?_)
  · refine T3.iff (x := .skip) (y := .exit 0) (by decide) (T3.skip ?_) (T3.exit ?_)
    · rintro a w ⟨hF, hq, hC, hb⟩
      exact ⟨hq.1 rfl, hC, hb, hF.tail⟩
    · rintro a w ⟨hF, hq, hC, hb⟩
      have hk : k = l.length := by
        by_cases h : k < l.length
        · have := hq.2 h
          cases this
        · omega
      subst hk
      exact ⟨hC, hb, hF.tail⟩
  · refine (T3.pure (R := fun a w => Below w0.heap.size w0 w ∧ Fr 87 [(0, v), (10, v), (11, .int .i64 l.length), (12, .int .i64 k)] a) (p := 0 ≤ k ∧ k < l.length ∧ NoErr (ruleAt l) (k + 1)) fun hk => ?_)
    refine (((rp_next v l w0 k hl).pre (fun a w q => ⟨hk, q⟩)).noX).post (fun a w q => ?_)
    exact ⟨n - 1, by omega, k + 1, by omega, q⟩

set_option maxRecDepth 100000 in
set_option maxHeartbeats 1000000 in
theorem rp_s0 (v : Value) (l : List RuleL) (w0 : World) (p : Option Addr) (c : Nat) (hv : v = .slice p l.length c) : T3 Tryd.prog (fun a w => w = w0 ∧ Fr 87 [(0, v)] a) (sel [0] rulesP) (fun a w => w = w0 ∧ Fr 87 [(0, v)] a) No 9 (fun a w => Fr 87 [(2, .int .i64 (rulesE l))] a ∧ Below w0.heap.size w0 w) := by
  subst hv
  refine T3.leaf ?_
  rintro Q JS JX JT K hS hK hX hE hT hR a w ⟨hw, ⟨f, rfl, q0, _⟩⟩
  have Hw := Lib.hid hw
  clear hw
  rw [frame87, show f 0 = (.slice p l.length c) from q0]
  clear q0
  conv => arg 2; whnf
  go_wp2_with fail
  refine Met.intro (hS _ _ ?_)
  exact ⟨Hw.out, Fr.of _ rfl ⟨rfl, trivial⟩⟩

set_option maxRecDepth 100000 in
set_option maxHeartbeats 1000000 in
theorem rp_s1 (v : Value) (l : List RuleL) (w0 : World) (p : Option Addr) (c : Nat) (hv : v = .slice p l.length c) (hl : ¬ 100 < l.length) : T3 Tryd.prog (fun a w => w = w0 ∧ Fr 87 [(0, v)] a) (sel [1, 0, 0] rulesP) (fun a w => w = w0 ∧ Fr 87 [(9, .bool false), (0, v)] a) No 9 (fun a w => Fr 87 [(2, .int .i64 (rulesE l))] a ∧ Below w0.heap.size w0 w) := by
  subst hv
  have hdec : decide ((100 : Int) < l.length) = false := by simp; omega
  refine T3.leaf ?_
  rintro Q JS JX JT K hS hK hX hE hT hR a w ⟨hw, ⟨f, rfl, q0, _⟩⟩
  have Hw := Lib.hid hw
  clear hw
  rw [frame87, show f 0 = (.slice p l.length c) from q0]
  clear q0
  conv => arg 2; whnf
  go_wp2_with fail
  refine Met.intro (hS _ _ ?_)
  exact ⟨Hw.out, Fr.of _ rfl ⟨rfl, rfl, trivial⟩⟩

set_option maxRecDepth 100000 in
set_option maxHeartbeats 1000000 in
theorem rp_s3 (v : Value) (l : List RuleL) (w0 : World) (p : Option Addr) (c : Nat) (hv : v = .slice p l.length c) : T3 Tryd.prog (fun a w => w = w0 ∧ Fr 87 [(0, v)] a) (sel [1, 1, 0, 0] rulesP) (rpI v l w0 0) No 9 (fun a w => Fr 87 [(2, .int .i64 (rulesE l))] a ∧ Below w0.heap.size w0 w) := by
  subst hv
  refine T3.leaf ?_
  rintro Q JS JX JT K hS hK hX hE hT hR a w ⟨hw, ⟨f, rfl, q0, _⟩⟩
  have Hw := Lib.hid hw
  clear hw
  rw [frame87, show f 0 = (.slice p l.length c) from q0]
  clear q0
  conv => arg 2; whnf
  go_wp2_with fail
  refine Met.intro (hS _ _ ?_)
  exact ⟨⟨by omega, by omega, NoErr.zero _⟩, by rw [Hw.out]; exact Below.refl _ _, Fr.of _ rfl ⟨rfl, rfl, rfl, rfl, trivial⟩⟩

set_option maxRecDepth 100000 in
set_option maxHeartbeats 1000000 in
theorem rp_s9 (v : Value) (l : List RuleL) (w0 : World) (hl : ¬ 100 < l.length) : T3 Tryd.prog (rpI v l w0 l.length) (sel [1, 1, 1, 0] rulesP) (fun a w => Fr 87 [(2, .int .i64 (rulesE l))] a ∧ Below w0.heap.size w0 w) No 9 (fun a w => Fr 87 [(2, .int .i64 (rulesE l))] a ∧ Below w0.heap.size w0 w) := by
  refine T3.leaf ?_
  rintro Q JS JX JT K hS hK hX hE hT hR a w ⟨⟨_, _, hok⟩, hb, ⟨f, rfl, q0, q10, q11, q12, _⟩⟩
  have He := Lib.hid (show rulesE l = 0 by unfold rulesE; rw [if_neg hl]; exact firstErr_none hok)
  clear hok
  rw [frame87, show f 0 = v from q0, show f 10 = v from q10, show f 11 = .int .i64 l.length from q11, show f 12 = .int .i64 (l.length : Int) from q12]
  clear q0 q10 q11 q12
  conv => arg 2; whnf
  go_wp2_with fail
  refine Met.intro (hS _ _ ?_)
  exact ⟨Fr.of _ rfl ⟨by rw [He.out]; rfl, trivial⟩, hb⟩

set_option maxRecDepth 100000 in
set_option maxHeartbeats 1000000 in
theorem rp_all (v : Value) (l : List RuleL) (w0 : World) (p : Option Addr) (c : Nat) (hv : v = .slice p l.length c) (hz : ∀ r ∈ l, RuleOk r) (hl : ¬ 100 < l.length) (hrow : l.length = 0 ∨ ∃ b off cap, v = .slice (some ⟨b, off, none⟩) l.length cap ∧ b < w0.heap.size ∧ (l.length ≤ cap ∧ cap ≤ 9223372036854775807) ∧ ∀ i : Int, 0 ≤ i → i < l.length → ∀ j u, (encR (geta l i))[j]? = some u → w0.cell? ⟨b, off + i.toNat * 7 + j, none⟩ = some u) : T3 Tryd.prog (fun a w => w = w0 ∧ Fr 87 [(0, v)] a) rulesP No No 9 (fun a w => Fr 87 [(2, .int .i64 (rulesE l))] a ∧ Below w0.heap.size w0 w) := by
  refine T3.seq (s := (sel [0] rulesP)) (c := (sel [1] rulesP)) (rp_s0 v l w0 p c hv) ?_
  refine T3.seq (s := (sel [1, 0] rulesP)) (c := (sel [1, 1] rulesP)) (S := (fun a w => w = w0 ∧ Fr 87 [(0, v)] a)) (T3.seq (s := (sel [1, 0, 0] rulesP)) (c := (sel [1, 0, 1] rulesP)) (rp_s1 v l w0 p c hv hl) ?_) ?_
  · refine T3.cond (o := .tmp 9) (x := (sel [1, 0, 1, 2] rulesP)) (y := .skip) (fun _ _ => False) (fun a w => w = w0 ∧ Fr 87 [(0, v)] a) (fun a w h => .inr ⟨h.2.eval 9 (by decide) (v := .bool false) (by simp), h.1, h.2.tail⟩) (fun _ _ h => h.elim) (T3.skip (fun _ _ h => h))
  refine T3.seq (s := (sel [1, 1, 0] rulesP)) (c := (sel [1, 1, 1] rulesP)) (T3.seq (s := (sel [1, 1, 0, 0] rulesP)) (c := (sel [1, 1, 0, 1] rulesP)) (rp_s3 v l w0 p c hv) (rp_loop v l w0 hz hl hrow)) ?_
  exact T3.seq (s := (sel [1, 1, 1, 0] rulesP)) (c := .ret) (rp_s9 v l w0 hl) (T3.ret (fun _ _ h => h))

set_option maxRecDepth 100000 in
set_option maxHeartbeats 1000000 in
theorem rules_prog (v : Value) (n : Nat) (l : List RuleL) (base : Nat) (w0 : World) (h : Row w0 base 7 v n (cellsOf encR l)) (hz : ∀ r ∈ l, RuleOk r) :
    Calls Tryd.prog 17 #[v] w0 fun e w' => e = .returned (.int .i64 (rulesE l)) ∧ Below w0.heap.size w0 w' := by
  obtain ⟨hl, hc⟩ := h.els encR_length (by decide)
  subst hl
  obtain ⟨p, c, hv⟩ := h.shape
  by_cases h100 : 100 < l.length
  · have he := Lib.hid (show rulesE l = 2 by simp [rulesE, h100])
    clear hc
    subst hv
    go_enter Tryd.func17, Tryd.ntmps17
    go_wp2_with fail
    go_ret
    exact ⟨ret_int he.out.symm, Below.refl _ _⟩
  · have hrow : l.length = 0 ∨ ∃ b off cap, v = .slice (some ⟨b, off, none⟩) l.length cap ∧ b < w0.heap.size ∧ (l.length ≤ cap ∧ cap ≤ 9223372036854775807) ∧ ∀ i : Int, 0 ≤ i → i < l.length → ∀ j u, (encR (geta l i))[j]? = some u → w0.cell? ⟨b, off + i.toNat * 7 + j, none⟩ = some u := by
      rcases hc with ⟨_, h0⟩ | ⟨b, off, cap, e, _, hbs, hnc, hcm, hcell⟩
      · exact .inl h0
      · exact .inr ⟨b, off, cap, e, hbs, ⟨hnc, hcm⟩, hcell⟩
    go_enter Tryd.func17, Tryd.ntmps17
    refine T3.done (s := rulesP) (rp_all v l w0 p c hv hz h100 hrow) ⟨rfl, Fr.of _ rfl ⟨rfl, trivial⟩⟩ ?_
    rintro a w ⟨⟨f, rfl, q2, _⟩, hb⟩
    rw [frame87, show f 2 = _ from q2]
    go_ret
    exact ⟨rfl, hb⟩

end Go.Proofs.YtbidnbcclibigaaDoor
