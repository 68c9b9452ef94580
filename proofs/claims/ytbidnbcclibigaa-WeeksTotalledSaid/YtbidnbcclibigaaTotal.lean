/-
  The sum of some weeks: the program's Total, the reference's TotalOf. Conditions: strings and numbers are no greater than Go's; at most 60 lines.
-/
import Derived.Test.YtbidnbcclibigaaAsked
namespace Go.Proofs.Ytbidnbcclibigaa
open Go.RowKit Go.Bw
def ordAt (ls : List LineL) (i : Int) : Int := if 0 < i ∧ (geta ls i).week ≤ (geta ls (i - 1)).week then 7 else 0
def orderE (ls : List LineL) : Int := firstErr (ordAt ls) ls.length
def windowB (f t : Int) : Bool := outB f 1 t || decide (61 < t)
def inW (f t : Int) (x : LineL) : Bool := decide (f ≤ x.week) && decide (x.week < t)
def weekV (rs : List RuleL) (ps : List ByteArray) (f t : Int) (x : LineL) : Int := if inW f t x = true then ptsV rs ps x.stats else 0
def totTo (rs : List RuleL) (ps : List ByteArray) (f t : Int) (ls : List LineL) (k : Int) : Int := ((ls.take k.toNat).map fun x => weekV rs ps f t x).sum
def totV (rs : List RuleL) (ps : List ByteArray) (f t : Int) (ls : List LineL) : Int := totTo rs ps f t ls ls.length
theorem totTo_succ (rs : List RuleL) (ps : List ByteArray) (f t : Int) (ls : List LineL) (k : Int) (h0 : 0 ≤ k) (h1 : k < ls.length) : totTo rs ps f t ls (k + 1) = totTo rs ps f t ls k + weekV rs ps f t (geta ls k) := by
  unfold totTo
  rw [show (k + 1).toNat = k.toNat + 1 by omega, List.take_succ_eq_append_getElem (by omega), geta_eq ls k h0 h1, List.map_append, List.sum_append]
  simp only [List.map_cons, List.map_nil, List.sum_cons, List.sum_nil]
  omega
def Counts (x : LineL) : Prop := ∀ t ∈ x.stats, -100000 ≤ t.count ∧ t.count ≤ 100000
theorem weekV_le {rs : List RuleL} (hg : ∀ r ∈ rs, RuleGood r) (hl : rs.length ≤ 100) (ps : List ByteArray) (f t : Int) {x : LineL} (hx : Counts x) : -10000000000000 ≤ weekV rs ps f t x ∧ weekV rs ps f t x ≤ 10000000000000 := by
  unfold weekV
  split
  · exact ptsTo_le hg hl ps x.stats hx _ (by omega) (by omega)
  · omega
theorem totTo_le {rs : List RuleL} (hg : ∀ r ∈ rs, RuleGood r) (hl : rs.length ≤ 100) (ps : List ByteArray) (f t : Int) (ls : List LineL) (h60 : ls.length ≤ 60) (hx : ∀ x ∈ ls, Counts x) (k : Int) (h0 : 0 ≤ k) (h1 : k ≤ ls.length) :
    -600000000000000 ≤ totTo rs ps f t ls k ∧ totTo rs ps f t ls k ≤ 600000000000000 := by
  have key : ∀ m : Nat, m ≤ ls.length → -(10000000000000 * (m : Int)) ≤ totTo rs ps f t ls m ∧ totTo rs ps f t ls m ≤ 10000000000000 * (m : Int) := by
    intro m
    induction m with
    | zero => intro _; have : totTo rs ps f t ls 0 = 0 := rfl; simp at this ⊢; rw [this]; omega
    | succ m ih =>
      intro hm
      have hs := totTo_succ rs ps f t ls m (by omega) (by omega)
      have hgl := weekV_le hg hl ps f t (hx _ (geta_mem (l := ls) (i := m) (by omega) (by omega)))
      have := ih (by omega)
      rw [show ((m + 1 : Nat) : Int) = (m : Int) + 1 by omega, hs]
      omega
  have := key k.toNat (by omega)
  rw [show ((k.toNat : Nat) : Int) = k by omega] at this
  omega
/-- A line that is right counts within bounds. -/
theorem line_counts {x : LineL} (h : lineL x = 0) : Counts x := by
  intro t ht
  obtain ⟨i, hi, rfl⟩ := List.getElem_of_mem ht
  unfold lineL lineE at h
  split at h
  · cases h
  split at h
  · cases h
  split at h
  · cases h
  have hat := firstErr_zero h i (by omega) (by omega)
  have hg : geta x.stats i = x.stats[i] := geta_eq x.stats i (by omega) (by omega)
  unfold statAt at hat
  rw [hg] at hat
  split at hat
  · cases hat
  split at hat
  · cases hat
  · rename_i h2
    exact out_no (by simpa using h2)
theorem lines_counts {ls : List LineL} (h : linesE ls = 0) : ∀ x ∈ ls, Counts x := by
  intro x hx
  obtain ⟨i, hi, rfl⟩ := List.getElem_of_mem hx
  have hat := firstErr_zero h i (by omega) (by omega)
  have hg : geta ls i = ls[i] := geta_eq ls i (by omega) (by omega)
  rw [hg] at hat
  exact line_counts hat
theorem asked_ok {rs : List RuleL} {ps : List ByteArray} {ls : List LineL} (h : askedE rs ps ls = 0) : rulesE rs = 0 ∧ listE ps = 0 ∧ linesE ls = 0 := by
  unfold askedE at h
  by_cases h1 : rulesE rs = 0
  · rw [if_neg (by simp [h1])] at h
    by_cases h2 : listE ps = 0
    · rw [if_neg (by simp [h2])] at h
      exact ⟨h1, h2, h⟩
    · rw [if_pos h2] at h
      exact absurd h h2
  · rw [if_pos h1] at h
    exact absurd h h1
theorem rules_len {rs : List RuleL} (h : rulesE rs = 0) : rs.length ≤ 100 := by
  unfold rulesE at h
  split at h
  · cases h
  · omega
def totalE (rs : List RuleL) (ps : List ByteArray) (ls : List LineL) (f t : Int) : Int := if askedE rs ps ls ≠ 0 then askedE rs ps ls else if orderE ls ≠ 0 then orderE ls else if windowB f t = true then 1 else 0

/-- The call's own two blocks. -/
structure Two (w0 w : World) (f t : Int) : Prop where
  win : CellsAt w w0.heap.size [.int .i64 f, .int .i64 t]
  res : CellsAt w (w0.heap.size + 1) [.int .i64 0, .int .i64 0]
  fr0 : w.frozen? ⟨w0.heap.size + 1, 0, none⟩ = false
  fr1 : w.frozen? ⟨w0.heap.size + 1, 1, none⟩ = false
  bel : Below w0.heap.size w0 w
theorem Two.below {w0 w w' : World} {f t : Int} (h : Two w0 w f t) (b : Below w.heap.size w w') : Two w0 w' f t :=
  ⟨h.win.below b, h.res.below b, (b.frozen (p := ⟨w0.heap.size + 1, 0, none⟩) h.res.1).trans h.fr0, (b.frozen (p := ⟨w0.heap.size + 1, 1, none⟩) h.res.1).trans h.fr1, h.bel.trans (b.mono h.bel.size)⟩
theorem Two.drewN {w0 w : World} {f t : Int} (h : Two w0 w f t) (k : Nat) : Two w0 (w.drewN k) f t := h.below (below_drewN (Below.refl _ _) k)
theorem Two.start (w0 : World) (f t : Int) : Two w0 ((w0.alloc (.cells #[.int .i64 f, .int .i64 t] 39)).alloc (.cells #[.int .i64 0, .int .i64 0] 41)) f t := by
  have h0 := CellsAt.new w0 #[.int .i64 f, .int .i64 t] 39
  have hb := (Below.refl (w0.alloc (.cells #[.int .i64 f, .int .i64 t] 39)).heap.size (w0.alloc (.cells #[.int .i64 f, .int .i64 t] 39))).alloc (Nat.le_refl _) (.cells #[.int .i64 0, .int .i64 0] 41)
  have h1 := CellsAt.new (w0.alloc (.cells #[.int .i64 f, .int .i64 t] 39)) #[.int .i64 0, .int .i64 0] 41
  have f0 := frozen_new0 (w0.alloc (.cells #[.int .i64 f, .int .i64 t] 39)) #[.int .i64 0, .int .i64 0] 41
  have hs : (w0.alloc (.cells #[.int .i64 f, .int .i64 t] 39)).heap.size = w0.heap.size + 1 := by simp
  rw [hs] at h1 f0
  exact ⟨h0.below hb, h1, f0 0, f0 1, ((Below.refl _ _).alloc (Nat.le_refl _) _).alloc (by simp) _⟩
/-- What is written into the result's block. -/
theorem Two.put {w0 w : World} {f t : Int} (h : Two w0 w f t) (x y : Value) :
    ((w.setCell ⟨w0.heap.size + 1, 0, none⟩ x).setCell ⟨w0.heap.size + 1, 1, none⟩ y).cell? ⟨w0.heap.size + 1, 0, none⟩ = some x ∧
    ((w.setCell ⟨w0.heap.size + 1, 0, none⟩ x).setCell ⟨w0.heap.size + 1, 1, none⟩ y).cell? ⟨w0.heap.size + 1, 1, none⟩ = some y ∧
    Below w0.heap.size w0 ((w.setCell ⟨w0.heap.size + 1, 0, none⟩ x).setCell ⟨w0.heap.size + 1, 1, none⟩ y) := by
  have k0 := h.res.2 0 _ rfl
  have k1 := h.res.2 1 _ rfl
  refine ⟨?_, ?_, (h.bel.setCell (by simp) _).setCell (by simp) _⟩
  · rw [World.cell?_setCell_other _ _ _ _ (by simp)]
    exact World.cell?_setCell_same' _ _ _ (by rw [k0]; rfl)
  · exact World.cell?_setCell_same' _ _ _ (by rw [World.cell?_setCell_other _ _ _ _ (by simp), k1]; rfl)

set_option maxRecDepth 100000 in
set_option maxHeartbeats 2000000 in
theorem totalOf_ref (w0 : World) (vr vp vl : Value) (rs : List RuleL) (ps : List ByteArray) (ls : List LineL) (f t : Int) (hz : ∀ r ∈ rs, RuleOk r) (hzp : ∀ s ∈ ps, s.size ≤ 9223372036854775807) (hzl : ∀ x ∈ ls, LineOk x) (h60 : ls.length ≤ 60)
    (hrr : Row w0 0 7 vr rs.length (cellsOf encR rs)) (hpr : Row w0 0 1 vp ps.length (cellsOf encS ps)) (hlr : Row w0 0 3 vl ls.length (cellsOf encL ls)) (hla : LinesAt w0 ls)
    (hg : ∀ r ∈ rs, RuleGood r) (hl : rs.length ≤ 100) (hx : ∀ x ∈ ls, Counts x) :
    Calls Try.prog 16 #[vr, vp, vl, .agg #[.int .i64 f, .int .i64 t]] w0 fun e w' => e = .returned (.agg #[.int .i64 (ofHn (totV rs ps f t ls)), .int .i64 (ofHd (totV rs ps f t ls))]) ∧ Below w0.heap.size w0 w' := by
  have hD := Two.start w0 f t
  obtain ⟨_, hcs⟩ := hlr.els encL_length (by decide)
  obtain ⟨p1, c1, hv1⟩ := hrr.shape
  obtain ⟨p2, c2, hv2⟩ := hpr.shape
  obtain ⟨p3, c3, hv3⟩ := hlr.shape
  subst hv1
  subst hv2
  subst hv3
  have HN := Lib.hid (show totV rs ps f t ls = totTo rs ps f t ls ls.length from rfl)
  go_enter Try.func16, Try.ntmps16
  go_wp2_with fail
  generalize ((w0.alloc (.cells #[.int .i64 f, .int .i64 t] 39)).alloc (.cells #[.int .i64 0, .int .i64 0] 41)) = W at *
  have hbW := hD.bel
  go_loopw [14, 9] (fun i s wr => ∃ k : Int, 0 ≤ k ∧ k ≤ ls.length ∧ i = .int .i64 k ∧ s = .int .i64 (totTo rs ps f t ls k) ∧ Below W.heap.size W wr) (fun i _ _ => ls.length - (intOf i).toNat)
  case atStart => exact ⟨0, by omega, by omega, rfl, rfl, Below.refl _ _⟩
  case round =>
    obtain ⟨k, hk0, hk1, rfl, rfl, hb⟩ := hrel
    have htb := totTo_le hg hl ps f t ls h60 hx k hk0 hk1
    by_cases hlt : k < ls.length
    · rcases hcs with ⟨_, h0⟩ | ⟨b, off, cap, hv, _, hbs, hnc, hcm, hcell⟩
      · omega
      simp only [Value.slice.injEq] at hv
      obtain ⟨rfl, _, rfl⟩ := hv
      have hall := hbW.trans (hb.mono hbW.size)
      have tr : ∀ j u, (encL (geta ls k))[j]? = some u → wr.cell? ⟨b, off + k.toNat * 3 + j, none⟩ = some u := fun j u h => (hall.cell (p := ⟨b, off + k.toNat * 3 + j, none⟩) hbs).trans (hcell k hk0 hlt j u h)
      have t0 := tr 0 _ rfl
      have t1 := tr 1 _ rfl
      have t2 := tr 2 _ rfl
      rw [Nat.add_zero] at t0
      have hm := geta_mem (l := ls) hk0 hlt
      have hxr := hla _ hm
      have hnew := (Below.refl wr.heap.size wr).alloc (Nat.le_refl _) (.cells (encL (geta ls k)).toArray 36)
      have hbn := hb.trans (hnew.mono hb.size)
      have hd := hD.below hb
      have hd := hd.below hnew
      obtain ⟨p4, c4, hv4⟩ := hxr.shape
      have q0 := cells_new wr (encL (geta ls k)).toArray 36 0 _ rfl
      have q1 := cells_new wr (encL (geta ls k)).toArray 36 1 _ rfl
      have q2 := cells_new wr (encL (geta ls k)).toArray 36 2 _ rfl
      have Hs := Lib.hid (totTo_succ rs ps f t ls k hk0 hlt)
      have Hw := Lib.hid (show weekV rs ps f t (geta ls k) = if inW f t (geta ls k) = true then ptsV rs ps (geta ls k).stats else 0 from rfl)
      have Hi := Lib.hid (show inW f t (geta ls k) = (decide (f ≤ (geta ls k).week) && decide ((geta ls k).week < t)) from rfl)
      have hcx := hx _ hm
      have hpb := ptsTo_le hg hl ps (geta ls k).stats hcx (rs.length : Int) (by omega) (by omega)
      change -10000000000000 ≤ ptsV rs ps (geta ls k).stats ∧ ptsV rs ps (geta ls k).stats ≤ 10000000000000 at hpb
      have HP := Lib.hid (points_ref _ _ _ (geta ls k).sv rs ps (geta ls k).stats (geta ls k).player (geta ls k).week hg hl hcx (hrr.below (hall.trans (hnew.mono hall.size))) ((hxr.below hall).below hnew) (hpr.below (hall.trans (hnew.mono hall.size))))
      have w1 := hd.win.2 0 _ rfl
      have w2 := hd.win.2 1 _ rfl
      clear tr hcell hxr hm hcx hD hall hnew
      unfold encL at hbn HP q0 q1 q2 w1 w2 hd
      rw [hv4] at t2 hbn HP q0 q1 q2 w1 w2 hd
      generalize (geta ls k).player = s1 at *
      generalize (geta ls k).week = n1 at *
      generalize (geta ls k).stats.length = n2 at *
      generalize ptsV rs ps (geta ls k).stats = pt at *
      go_upto_region 5 with fail
      change Below W.heap.size W (wr.alloc (.cells #[.string s1, .int .i64 n1, .slice p4 n2 c4] 36)) at hbn
      change Hid (Calls _ _ _ (wr.alloc (.cells #[.string s1, .int .i64 n1, .slice p4 n2 c4] 36)) _) at HP
      change (wr.alloc (.cells #[.string s1, .int .i64 n1, .slice p4 n2 c4] 36)).cell? _ = _ at q0
      change (wr.alloc (.cells #[.string s1, .int .i64 n1, .slice p4 n2 c4] 36)).cell? _ = _ at q1
      change (wr.alloc (.cells #[.string s1, .int .i64 n1, .slice p4 n2 c4] 36)).cell? _ = _ at q2
      change (wr.alloc (.cells #[.string s1, .int .i64 n1, .slice p4 n2 c4] 36)).cell? _ = _ at w1
      change (wr.alloc (.cells #[.string s1, .int .i64 n1, .slice p4 n2 c4] 36)).cell? _ = _ at w2
      clear hd
      generalize wr.alloc (.cells #[.string s1, .int .i64 n1, .slice p4 n2 c4] 36) = W2 at *
      generalize wr.heap.size = g at *
      clear t0 t1 t2
      generalize totTo rs ps f t ls k = tk at *
      by_cases hf : f ≤ n1
      · by_cases ht : n1 < t
        · have HV := Lib.hid (show totTo rs ps f t ls (k + 1) = tk + pt by rw [Hs.out, Hw.out, Hi.out, if_pos (by simp [hf, ht])])
          have hob := ofH_bounds pt (by omega) (by omega)
          have HH := Lib.hid (fun w => hundredths_ref (ofHn pt) (ofHd pt) w (by omega) (by omega) (by omega) (by omega))
          rw [show hund (ofHn pt) (ofHd pt) = pt from ofH_back pt] at HH
          clear Hs Hw Hi hob
          go_wp2_with fail
          refine HP.out.mono ?_
          rintro e w3 ⟨rfl, hb3⟩
          replace hbn := hbn.trans (hb3.mono hbn.size)
          clear hb3 q0 q1 q2 w1 w2 HP
          generalize ofHn pt = x1 at *
          generalize ofHd pt = y1 at *
          go_wp2_with fail
          refine (HH.out _).mono ?_
          rintro e w4 ⟨rfl, hb4⟩
          replace hbn := hbn.trans (hb4.mono hbn.size)
          clear hb4
          go_wp2_with fail
          go_roundw
          case rel => exact ⟨k + 1, by omega, by omega, rfl, by rw [HV.out], hbn⟩
          case measure => simp [intOf]; omega
        · have HV := Lib.hid (show totTo rs ps f t ls (k + 1) = tk by rw [Hs.out, Hw.out, Hi.out, if_neg (by simp; omega)]; omega)
          have hd1 : decide (n1 < t) = false := by simp; omega
          clear Hs Hw Hi
          go_wp2_with fail
          go_roundw
          case rel => exact ⟨k + 1, by omega, by omega, rfl, by rw [HV.out], hbn⟩
          case measure => simp [intOf]; omega
      · have HV := Lib.hid (show totTo rs ps f t ls (k + 1) = tk by rw [Hs.out, Hw.out, Hi.out, if_neg (by simp; omega)]; omega)
        have hd1 : decide (f ≤ n1) = false := by simp; omega
        clear Hs Hw Hi
        go_wp2_with fail
        go_roundw
        case rel => exact ⟨k + 1, by omega, by omega, rfl, by rw [HV.out], hbn⟩
        case measure => simp [intOf]; omega
    · obtain rfl : k = ls.length := by omega
      clear hcs hk0 hk1 hlt
      have hd := hD.below hb
      rw [← HN.out] at htb
      rw [← HN.out]
      generalize hn : totV rs ps f t ls = n at *
      have HNN := Lib.hid hn
      clear hn hD hb
      go_wp2_with fail
      refine (ofHundredths_ref n _ (by omega) (by omega)).mono ?_
      rintro e w1 ⟨rfl, hb3⟩
      replace hd := hd.below hb3
      obtain ⟨r0, r1, hB⟩ := hd.put (.int .i64 (ofHn n)) (.int .i64 (ofHd n))
      have k0 := hd.res.2 0 _ rfl
      have k1 := hd.res.2 1 _ rfl
      have kf := hd.fr0
      have kf1 := hd.fr1
      clear hb3 hd
      go_wp2_with fail
      exact bodyPost_ret (v := .agg #[.int .i64 (ofHn n), .int .i64 (ofHd n)]) (by simp [results, Try.results16, go_sem, r0, r1]) rfl ⟨by rw [HNN.out], hB⟩
end Go.Proofs.Ytbidnbcclibigaa
