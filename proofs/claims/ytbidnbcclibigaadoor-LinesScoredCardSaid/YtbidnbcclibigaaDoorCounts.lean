/-
  The sum of some weeks: plain lemmas. No condition.
-/
import Derived.Test.YtbidnbcclibigaaDoorAsked
namespace Go.Proofs.YtbidnbcclibigaaDoor
open Go.RowKit Go.Bw
def ordAt (ls : List LineL) (i : Int) : Int := if 0 < i ∧ (geta ls i).week ≤ (geta ls (i - 1)).week then 7 else 0
def orderE (ls : List LineL) : Int := firstErr (ordAt ls) ls.length
def windowB (f t : Int) : Bool := outB f 1 t || decide (61 < t)
def inW (f t : Int) (x : LineL) : Bool := decide (f ≤ x.week) && decide (x.week < t)
def weekV (rs : List RuleL) (ps : List ByteArray) (f t : Int) (x : LineL) : Int := if inW f t x = true then ptsV rs ps x.stats else 0
def totTo (rs : List RuleL) (ps : List ByteArray) (f t : Int) (ls : List LineL) (k : Int) : Int := ((ls.take k.toNat).map fun x => weekV rs ps f t x).sum
def totV (rs : List RuleL) (ps : List ByteArray) (f t : Int) (ls : List LineL) : Int := totTo rs ps f t ls ls.length
theorem totTo_succ (rs : List RuleL) (ps : List ByteArray) (f t : Int) (ls : List LineL) (k : Int) (h0 : 0 ≤ k) (h1 : k < ls.length) : totTo rs ps f t ls (k + 1) = totTo rs ps f t ls k + weekV rs ps f t (geta ls k) := by
  unfold totTo
  rw [show (k + 1).toNat = k.toNat + 1 by omega, List.take_succ_eq_append_getElem (by omega), geta_eq ls k h0 h1, List.map_append, List.sum_append]
  simp only [List.map_cons, List.map_nil, List.sum_cons, List.sum_nil]
  omega
def Counts (x : LineL) : Prop := ∀ t ∈ x.stats, -100000 ≤ t.count ∧ t.count ≤ 100000
theorem weekV_le {rs : List RuleL} (hg : ∀ r ∈ rs, RuleGood r) (hl : rs.length ≤ 100) (ps : List ByteArray) (f t : Int) {x : LineL} (hx : Counts x) : -10000000000000 ≤ weekV rs ps f t x ∧ weekV rs ps f t x ≤ 10000000000000 := by
  unfold weekV
  split
  · exact ptsTo_le hg hl ps x.stats hx _ (by omega) (by omega)
  · omega
theorem totTo_le {rs : List RuleL} (hg : ∀ r ∈ rs, RuleGood r) (hl : rs.length ≤ 100) (ps : List ByteArray) (f t : Int) (ls : List LineL) (h60 : ls.length ≤ 60) (hx : ∀ x ∈ ls, Counts x) (k : Int) (h0 : 0 ≤ k) (h1 : k ≤ ls.length) :
    -600000000000000 ≤ totTo rs ps f t ls k ∧ totTo rs ps f t ls k ≤ 600000000000000 := by
  have key : ∀ m : Nat, m ≤ ls.length → -(10000000000000 * (m : Int)) ≤ totTo rs ps f t ls m ∧ totTo rs ps f t ls m ≤ 10000000000000 * (m : Int) := by
    intro m
    induction m with
    | zero => intro _; have : totTo rs ps f t ls 0 = 0 := rfl; simp at this ⊢; rw [this]; omega
    | succ m ih =>
      intro hm
      have hs := totTo_succ rs ps f t ls m (by omega) (by omega)
      have hgl := weekV_le hg hl ps f t (hx _ (geta_mem (l := ls) (i := m) (by omega) (by omega)))
      have := ih (by omega)
      rw [show ((m + 1 : Nat) : Int) = (m : Int) + 1 by omega, hs]
      omega
  have := key k.toNat (by omega)
  rw [show ((k.toNat : Nat) : Int) = k by omega] at this
  omega
/-- A line that is right counts within bounds. -/
theorem line_counts {x : LineL} (h : lineL x = 0) : Counts x := by
  intro t ht
  obtain ⟨i, hi, rfl⟩ := List.getElem_of_mem ht
  unfold lineL lineE at h
  split at h
  · cases h
  split at h
  · cases h
  split at h
  · cases h
  have hat := firstErr_zero h i (by omega) (by omega)
  have hg : geta x.stats i = x.stats[i] := geta_eq x.stats i (by omega) (by omega)
  unfold statAt at hat
  rw [hg] at hat
  split at hat
  · cases hat
  split at hat
  · cases hat
  · rename_i h2
    exact out_no (by simpa using h2)
theorem lines_counts {ls : List LineL} (h : linesE ls = 0) : ∀ x ∈ ls, Counts x := by
  intro x hx
  obtain ⟨i, hi, rfl⟩ := List.getElem_of_mem hx
  have hat := firstErr_zero h i (by omega) (by omega)
  have hg : geta ls i = ls[i] := geta_eq ls i (by omega) (by omega)
  rw [hg] at hat
  exact line_counts hat
theorem asked_ok {rs : List RuleL} {ps : List ByteArray} {ls : List LineL} (h : askedE rs ps ls = 0) : rulesE rs = 0 ∧ listE ps = 0 ∧ linesE ls = 0 := by
  unfold askedE at h
  by_cases h1 : rulesE rs = 0
  · rw [if_neg (by simp [h1])] at h
    by_cases h2 : listE ps = 0
    · rw [if_neg (by simp [h2])] at h
      exact ⟨h1, h2, h⟩
    · rw [if_pos h2] at h
      exact absurd h h2
  · rw [if_pos h1] at h
    exact absurd h h1
theorem rules_len {rs : List RuleL} (h : rulesE rs = 0) : rs.length ≤ 100 := by
  unfold rulesE at h
  split at h
  · cases h
  · omega
def totalE (rs : List RuleL) (ps : List ByteArray) (ls : List LineL) (f t : Int) : Int := if askedE rs ps ls ≠ 0 then askedE rs ps ls else if orderE ls ≠ 0 then orderE ls else if windowB f t = true then 1 else 0

end Go.Proofs.YtbidnbcclibigaaDoor
