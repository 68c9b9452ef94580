/-
  The points of a line: the program's and the reference's sum. Conditions: the rules and the line are right.
-/
import Derived.Test.YtbidnbcclibigaaDoorGives
namespace Go.Proofs.YtbidnbcclibigaaDoor
open Go.RowKit Go.Bw
def ptsTo (rs : List RuleL) (ps : List ByteArray) (ts : List StatL) (k : Int) : Int := ((rs.take k.toNat).map fun r => givesV r ps ts).sum
def ptsV (rs : List RuleL) (ps : List ByteArray) (ts : List StatL) : Int := ptsTo rs ps ts rs.length
theorem ptsTo_zero (rs : List RuleL) (ps : List ByteArray) (ts : List StatL) : ptsTo rs ps ts 0 = 0 := rfl
theorem ptsTo_succ (rs : List RuleL) (ps : List ByteArray) (ts : List StatL) (k : Int) (h0 : 0 ≤ k) (h1 : k < rs.length) : ptsTo rs ps ts (k + 1) = ptsTo rs ps ts k + givesV (geta rs k) ps ts := by
  unfold ptsTo
  rw [show (k + 1).toNat = k.toNat + 1 by omega, List.take_succ_eq_append_getElem (by omega), geta_eq rs k h0 h1, List.map_append, List.sum_append]
  simp only [List.map_cons, List.map_nil, List.sum_cons, List.sum_nil]
  omega
theorem gives_le {r : RuleL} (hr : RuleGood r) (ps : List ByteArray) (ts : List StatL) (hc : ∀ t ∈ ts, -100000 ≤ t.count ∧ t.count ≤ 100000) : -100000000000 ≤ givesV r ps ts ∧ givesV r ps ts ≤ 100000000000 := by
  have hcb := cntTo_le ts r.stat hc ts.length (by omega) (by omega)
  have htb := times_le r (cnt ts r.stat) hr.m hcb.1 hcb.2
  have := mul_b (hund r.num r.den) (timesV r (cnt ts r.stat)) hr.h0 hr.h1 htb.1 htb.2
  unfold givesV
  split
  · omega
  · exact this
theorem ptsTo_le {rs : List RuleL} (hg : ∀ r ∈ rs, RuleGood r) (hl : rs.length ≤ 100) (ps : List ByteArray) (ts : List StatL) (hc : ∀ t ∈ ts, -100000 ≤ t.count ∧ t.count ≤ 100000) (k : Int) (h0 : 0 ≤ k) (h1 : k ≤ rs.length) :
    -10000000000000 ≤ ptsTo rs ps ts k ∧ ptsTo rs ps ts k ≤ 10000000000000 := by
  have key : ∀ m : Nat, m ≤ rs.length → -(100000000000 * (m : Int)) ≤ ptsTo rs ps ts m ∧ ptsTo rs ps ts m ≤ 100000000000 * (m : Int) := by
    intro m
    induction m with
    | zero => intro _; have := ptsTo_zero rs ps ts; simp at this ⊢; rw [this]; omega
    | succ m ih =>
      intro hm
      have hs := ptsTo_succ rs ps ts m (by omega) (by omega)
      have hgl := gives_le (hg _ (geta_mem (l := rs) (i := m) (by omega) (by omega))) ps ts hc
      have := ih (by omega)
      rw [show ((m + 1 : Nat) : Int) = (m : Int) + 1 by omega, hs]
      omega
  have := key k.toNat (by omega)
  rw [show ((k.toNat : Nat) : Int) = k by omega] at this
  omega

set_option maxRecDepth 100000 in
set_option maxHeartbeats 2000000 in
theorem points_prog (w0 : World) (vr vp vt : Value) (rs : List RuleL) (ps : List ByteArray) (ts : List StatL) (pl : ByteArray) (wk : Int) (hg : ∀ r ∈ rs, RuleGood r) (hl : rs.length ≤ 100) (hc : ∀ t ∈ ts, -100000 ≤ t.count ∧ t.count ≤ 100000)
    (hrr : Row w0 0 7 vr rs.length (cellsOf encR rs)) (htr : Row w0 0 2 vt ts.length (cellsOf encT ts)) (hpr : Row w0 0 1 vp ps.length (cellsOf encS ps)) :
    Calls Tryd.prog 30 #[vr, vp, .agg #[.string pl, .int .i64 wk, vt]] w0 fun e w' => e = .returned (.int .i64 (ptsV rs ps ts)) ∧ Below w0.heap.size w0 w' := by
  obtain ⟨_, hcs⟩ := hrr.els encR_length (by decide)
  obtain ⟨p0, c0, hv0⟩ := hrr.shape
  obtain ⟨p1, c1, hv1⟩ := htr.shape
  obtain ⟨p2, c2, hv2⟩ := hpr.shape
  have Hv1 := Lib.hid hv1
  have Hv2 := Lib.hid hv2
  clear hrr
  subst hv0
  subst hv1
  subst hv2
  go_enter Tryd.func30, Tryd.ntmps30
  go_wp2_with fail
  have hbW := (Below.refl w0.heap.size w0).alloc (Nat.le_refl _) (.cells #[.string pl, .int .i64 wk, .slice p1 ts.length c1] 32)
  have hL := CellsAt.new w0 #[.string pl, .int .i64 wk, .slice p1 ts.length c1] 32
  generalize (w0.alloc (.cells #[.string pl, .int .i64 wk, .slice p1 ts.length c1] 32)) = W at *
  go_loopw [12, 7] (fun i s wr => ∃ k : Int, 0 ≤ k ∧ k ≤ rs.length ∧ i = .int .i64 k ∧ s = .int .i64 (ptsTo rs ps ts k) ∧ Below W.heap.size W wr) (fun i _ _ => rs.length - (intOf i).toNat)
  case atStart => exact ⟨0, by omega, by omega, rfl, rfl, Below.refl _ _⟩
  case round =>
    obtain ⟨k, hk0, hk1, rfl, rfl, hb⟩ := hrel
    have hpb := ptsTo_le hg hl ps ts hc k hk0 hk1
    by_cases hlt : k < rs.length
    · rcases hcs with ⟨_, h0⟩ | ⟨b, off, cap, hv, _, hbs, hnc, hcm, hcell⟩
      · omega
      simp only [Value.slice.injEq] at hv
      obtain ⟨rfl, _, rfl⟩ := hv
      have hall := hbW.trans (hb.mono hbW.size)
      have tr : ∀ j u, (encR (geta rs k))[j]? = some u → wr.cell? ⟨b, off + k.toNat * 7 + j, none⟩ = some u := fun j u h => (hall.cell (p := ⟨b, off + k.toNat * 7 + j, none⟩) hbs).trans (hcell k hk0 hlt j u h)
      have t0 := tr 0 _ rfl
      have t1 := tr 1 _ rfl
      have t2 := tr 2 _ rfl
      have t3 := tr 3 _ rfl
      have t4 := tr 4 _ rfl
      have t5 := tr 5 _ rfl
      have t6 := tr 6 _ rfl
      rw [Nat.add_zero] at t0
      have hgr := hg _ (geta_mem hk0 hlt)
      have Hs := Lib.hid (ptsTo_succ rs ps ts k hk0 hlt)
      have hgb := gives_le hgr ps ts hc
      have hbn := hb.alloc hb.size (.cells (encR (geta rs k)).toArray 57)
      have hC := CellsAt.new wr (encR (geta rs k)).toArray 57
      have hln := hL.below hbn
      have hall2 := hall.trans ((Below.refl wr.heap.size wr).alloc (Nat.le_refl _) (.cells (encR (geta rs k)).toArray 57) |>.mono hall.size)
      have HT := Lib.hid (htr.below hall2)
      have HP := Lib.hid (hpr.below hall2)
      have HG := fun w h1 h2 => gives_prog w (geta rs k) pl wk (.slice p1 ts.length c1) (.slice p2 ps.length c2) ts ps hgr hc h1 h2
      have HG := Lib.hid HG
      clear tr hcell hL hgr hall
      generalize geta rs k = R at *
      unfold encR at hC hbn hln hall2 HT HP
      go_upto_region 5 with fail
      change Below W.heap.size W (wr.alloc (.cells #[.string R.key, .string R.stat, .string R.pos, .int .i64 R.kind, .int .i64 R.many, .int .i64 R.num, .int .i64 R.den] 57)) at hbn
      change CellsAt (wr.alloc (.cells #[.string R.key, .string R.stat, .string R.pos, .int .i64 R.kind, .int .i64 R.many, .int .i64 R.num, .int .i64 R.den] 57)) _ _ at hC
      change CellsAt (wr.alloc (.cells #[.string R.key, .string R.stat, .string R.pos, .int .i64 R.kind, .int .i64 R.many, .int .i64 R.num, .int .i64 R.den] 57)) _ _ at hln
      change Below w0.heap.size w0 (wr.alloc (.cells #[.string R.key, .string R.stat, .string R.pos, .int .i64 R.kind, .int .i64 R.many, .int .i64 R.num, .int .i64 R.den] 57)) at hall2
      change Hid (Row (wr.alloc (.cells #[.string R.key, .string R.stat, .string R.pos, .int .i64 R.kind, .int .i64 R.many, .int .i64 R.num, .int .i64 R.den] 57)) _ _ _ _ _) at HT
      change Hid (Row (wr.alloc (.cells #[.string R.key, .string R.stat, .string R.pos, .int .i64 R.kind, .int .i64 R.many, .int .i64 R.num, .int .i64 R.den] 57)) _ _ _ _ _) at HP
      generalize wr.alloc (.cells #[.string R.key, .string R.stat, .string R.pos, .int .i64 R.kind, .int .i64 R.many, .int .i64 R.num, .int .i64 R.den] 57) = W2 at *
      have r0 := hC.2 0 _ rfl
      have r1 := hC.2 1 _ rfl
      have r2 := hC.2 2 _ rfl
      have r3 := hC.2 3 _ rfl
      have r4 := hC.2 4 _ rfl
      have r5 := hC.2 5 _ rfl
      have r6 := hC.2 6 _ rfl
      have l0 := hln.2 0 _ rfl
      have l1 := hln.2 1 _ rfl
      have l2 := hln.2 2 _ rfl
      clear hC hln t0 t1 t2 t3 t4 t5 t6 hall2
      generalize wr.heap.size = g at *
      go_wp2_with (go_at_call 31; refine (HG.out _ HT.out HP.out).mono ?_; rintro e w1 ⟨rfl, hb3⟩; replace hbn := hbn.trans (hb3.mono hbn.size); clear hb3 r0 r1 r2 r3 r4 r5 r6 l0 l1 l2)
      go_roundw
      case rel => exact ⟨k + 1, by omega, by omega, rfl, by rw [Hs.out], hbn⟩
      case measure => simp [intOf]; omega
    · obtain rfl : k = rs.length := by omega
      clear hcs hk0 hk1 hlt
      change -10000000000000 ≤ ptsV rs ps ts ∧ ptsV rs ps ts ≤ 10000000000000 at hpb
      go_wp2_with fail
      go_ret
      exact ⟨rfl, hbW.trans (hb.mono hbW.size)⟩

set_option maxRecDepth 100000 in
set_option maxHeartbeats 2000000 in
theorem points_ref (w0 : World) (vr vp vt : Value) (rs : List RuleL) (ps : List ByteArray) (ts : List StatL) (pl : ByteArray) (wk : Int) (hg : ∀ r ∈ rs, RuleGood r) (hl : rs.length ≤ 100) (hc : ∀ t ∈ ts, -100000 ≤ t.count ∧ t.count ≤ 100000)
    (hrr : Row w0 0 7 vr rs.length (cellsOf encR rs)) (htr : Row w0 0 2 vt ts.length (cellsOf encT ts)) (hpr : Row w0 0 1 vp ps.length (cellsOf encS ps)) :
    Calls Tryd.prog 14 #[vr, vp, .agg #[.string pl, .int .i64 wk, vt]] w0 fun e w' => e = .returned (.agg #[.int .i64 (ofHn (ptsV rs ps ts)), .int .i64 (ofHd (ptsV rs ps ts))]) ∧ Below w0.heap.size w0 w' := by
  obtain ⟨_, hcs⟩ := hrr.els encR_length (by decide)
  obtain ⟨p0, c0, hv0⟩ := hrr.shape
  obtain ⟨p1, c1, hv1⟩ := htr.shape
  obtain ⟨p2, c2, hv2⟩ := hpr.shape
  have Hv1 := Lib.hid hv1
  have Hv2 := Lib.hid hv2
  clear hrr
  subst hv0
  subst hv1
  subst hv2
  go_enter Tryd.func14, Tryd.ntmps14
  go_wp2_with fail
  have hbW := (Below.refl w0.heap.size w0).alloc (Nat.le_refl _) (.cells #[.string pl, .int .i64 wk, .slice p1 ts.length c1] 32)
  have hL := CellsAt.new w0 #[.string pl, .int .i64 wk, .slice p1 ts.length c1] 32
  have hs1 : (w0.alloc (.cells #[.string pl, .int .i64 wk, .slice p1 ts.length c1] 32)).heap.size = w0.heap.size + 1 := by simp
  have hF := fun w1 hb => fresh2 (w0.alloc (.cells #[.string pl, .int .i64 wk, .slice p1 ts.length c1] 32)) w1 36 (.int .i64 0) (.int .i64 0) hb
  have hb2 := (Below.refl (w0.alloc (.cells #[.string pl, .int .i64 wk, .slice p1 ts.length c1] 32)).heap.size (w0.alloc (.cells #[.string pl, .int .i64 wk, .slice p1 ts.length c1] 32))).alloc (Nat.le_refl _) (.cells #[.int .i64 0, .int .i64 0] 36)
  replace hL := hL.below hb2
  replace hbW := hbW.trans (hb2.mono hbW.size)
  rw [hs1] at hF
  have HF := Lib.hid hF
  clear hF hb2 hs1
  generalize hW : ((w0.alloc (.cells #[.string pl, .int .i64 wk, .slice p1 ts.length c1] 32)).alloc (.cells #[.int .i64 0, .int .i64 0] 36)) = W at *
  have HW := Lib.hid hW
  clear hW
  go_loopw [12, 7] (fun i s wr => ∃ k : Int, 0 ≤ k ∧ k ≤ rs.length ∧ i = .int .i64 k ∧ s = .int .i64 (ptsTo rs ps ts k) ∧ Below W.heap.size W wr) (fun i _ _ => rs.length - (intOf i).toNat)
  case atStart => exact ⟨0, by omega, by omega, rfl, rfl, Below.refl _ _⟩
  case round =>
    obtain ⟨k, hk0, hk1, rfl, rfl, hb⟩ := hrel
    have hpb := ptsTo_le hg hl ps ts hc k hk0 hk1
    by_cases hlt : k < rs.length
    · rcases hcs with ⟨_, h0⟩ | ⟨b, off, cap, hv, _, hbs, hnc, hcm, hcell⟩
      · omega
      simp only [Value.slice.injEq] at hv
      obtain ⟨rfl, _, rfl⟩ := hv
      have hall := hbW.trans (hb.mono hbW.size)
      have tr : ∀ j u, (encR (geta rs k))[j]? = some u → wr.cell? ⟨b, off + k.toNat * 7 + j, none⟩ = some u := fun j u h => (hall.cell (p := ⟨b, off + k.toNat * 7 + j, none⟩) hbs).trans (hcell k hk0 hlt j u h)
      have t0 := tr 0 _ rfl
      have t1 := tr 1 _ rfl
      have t2 := tr 2 _ rfl
      have t3 := tr 3 _ rfl
      have t4 := tr 4 _ rfl
      have t5 := tr 5 _ rfl
      have t6 := tr 6 _ rfl
      rw [Nat.add_zero] at t0
      have hgr := hg _ (geta_mem hk0 hlt)
      have Hs := Lib.hid (ptsTo_succ rs ps ts k hk0 hlt)
      have hgb := gives_le hgr ps ts hc
      have hbn := hb.alloc hb.size (.cells (encR (geta rs k)).toArray 57)
      have hC := CellsAt.new wr (encR (geta rs k)).toArray 57
      have hln := hL.below hbn
      have hall2 := hall.trans ((Below.refl wr.heap.size wr).alloc (Nat.le_refl _) (.cells (encR (geta rs k)).toArray 57) |>.mono hall.size)
      have HT := Lib.hid (htr.below hall2)
      have HP := Lib.hid (hpr.below hall2)
      have HG := fun w h1 h2 => gives_ref w (geta rs k) pl wk (.slice p1 ts.length c1) (.slice p2 ps.length c2) ts ps hgr hc h1 h2
      have HG := Lib.hid HG
      clear tr hcell hL hgr hall
      generalize geta rs k = R at *
      unfold encR at hC hbn hln hall2 HT HP
      go_upto_region 5 with fail
      change Below W.heap.size W (wr.alloc (.cells #[.string R.key, .string R.stat, .string R.pos, .int .i64 R.kind, .int .i64 R.many, .int .i64 R.num, .int .i64 R.den] 57)) at hbn
      change CellsAt (wr.alloc (.cells #[.string R.key, .string R.stat, .string R.pos, .int .i64 R.kind, .int .i64 R.many, .int .i64 R.num, .int .i64 R.den] 57)) _ _ at hC
      change CellsAt (wr.alloc (.cells #[.string R.key, .string R.stat, .string R.pos, .int .i64 R.kind, .int .i64 R.many, .int .i64 R.num, .int .i64 R.den] 57)) _ _ at hln
      change Below w0.heap.size w0 (wr.alloc (.cells #[.string R.key, .string R.stat, .string R.pos, .int .i64 R.kind, .int .i64 R.many, .int .i64 R.num, .int .i64 R.den] 57)) at hall2
      change Hid (Row (wr.alloc (.cells #[.string R.key, .string R.stat, .string R.pos, .int .i64 R.kind, .int .i64 R.many, .int .i64 R.num, .int .i64 R.den] 57)) _ _ _ _ _) at HT
      change Hid (Row (wr.alloc (.cells #[.string R.key, .string R.stat, .string R.pos, .int .i64 R.kind, .int .i64 R.many, .int .i64 R.num, .int .i64 R.den] 57)) _ _ _ _ _) at HP
      generalize wr.alloc (.cells #[.string R.key, .string R.stat, .string R.pos, .int .i64 R.kind, .int .i64 R.many, .int .i64 R.num, .int .i64 R.den] 57) = W2 at *
      have r0 := hC.2 0 _ rfl
      have r1 := hC.2 1 _ rfl
      have r2 := hC.2 2 _ rfl
      have r3 := hC.2 3 _ rfl
      have r4 := hC.2 4 _ rfl
      have r5 := hC.2 5 _ rfl
      have r6 := hC.2 6 _ rfl
      have l0 := hln.2 0 _ rfl
      have l1 := hln.2 1 _ rfl
      have l2 := hln.2 2 _ rfl
      clear hC hln t0 t1 t2 t3 t4 t5 t6 hall2
      generalize wr.heap.size = g at *
      go_wp2_with (go_at_call 38; refine (HG.out _ HT.out HP.out).mono ?_; rintro e w1 ⟨rfl, hb3⟩; replace hbn := hbn.trans (hb3.mono hbn.size); clear hb3 r0 r1 r2 r3 r4 r5 r6 l0 l1 l2)
      go_roundw
      case rel => exact ⟨k + 1, by omega, by omega, rfl, by rw [Hs.out], hbn⟩
      case measure => simp [intOf]; omega
    · obtain rfl : k = rs.length := by omega
      clear hcs hk0 hk1 hlt
      change -10000000000000 ≤ ptsV rs ps ts ∧ ptsV rs ps ts ≤ 10000000000000 at hpb
      have hO := ofHundredths_ref (ptsV rs ps ts) wr (by omega) (by omega)
      have hPe : ptsTo rs ps ts rs.length = ptsV rs ps ts := rfl
      rw [hPe]
      have HO := Lib.hid hO
      clear hO hPe
      generalize hn : ptsV rs ps ts = n at *
      have HN := Lib.hid hn
      clear hn
      go_wp2_with fail
      refine HO.out.mono ?_
      rintro e w1 ⟨rfl, hb3⟩
      replace hb := hb.trans (hb3.mono hb.size)
      obtain ⟨k0, k1, kf, kf1, _, r0, r1, hB⟩ := HF.out w1 hb
      have r0 := r0 (.int .i64 (ofHn n)) (.int .i64 (ofHd n))
      have r1 := r1 (.int .i64 (ofHn n)) (.int .i64 (ofHd n))
      have hB := hB (.int .i64 (ofHn n)) (.int .i64 (ofHd n))
      clear hb3 HW HF hb
      go_wp2_with fail
      have hb0 := (Below.refl w0.heap.size w0).alloc (Nat.le_refl _) (.cells #[.string pl, .int .i64 wk, .slice p1 ts.length c1] 32)
      exact bodyPost_ret (v := .agg #[.int .i64 (ofHn n), .int .i64 (ofHd n)]) (by simp [results, Tryd.results14, go_sem, r0, r1]) rfl ⟨by rw [HN.out], hb0.trans (hB.mono (Nat.le_succ _))⟩
end Go.Proofs.YtbidnbcclibigaaDoor
