/-
  The sum of some weeks: the program's Total. Conditions: strings and numbers are no greater than Go's; at most 60 lines.
-/
import Derived.Test.YtbidnbcclibigaaTotal
namespace Go.Proofs.Ytbidnbcclibigaa
open Go.RowKit Go.Bw
def totN (rs : List RuleL) (ps : List ByteArray) (ls : List LineL) (f t : Int) : Int := if totalE rs ps ls f t = 0 then ofHn (totV rs ps f t ls) else 0
def totD (rs : List RuleL) (ps : List ByteArray) (ls : List LineL) (f t : Int) : Int := if totalE rs ps ls f t = 0 then ofHd (totV rs ps f t ls) else 0
theorem tot_bad {rs : List RuleL} {ps : List ByteArray} {ls : List LineL} {f t e : Int} (h : totalE rs ps ls f t = e) (he : e ≠ 0) : (.tuple #[.agg #[.int .i64 (totN rs ps ls f t), .int .i64 (totD rs ps ls f t)], .int .i64 (totalE rs ps ls f t)] : Value) = .tuple #[.agg #[.int .i64 0, .int .i64 0], .int .i64 e] := by
  unfold totN totD
  rw [h, if_neg he, if_neg he]
theorem tot_ok {rs : List RuleL} {ps : List ByteArray} {ls : List LineL} {f t : Int} (h : totalE rs ps ls f t = 0) : (.tuple #[.agg #[.int .i64 (totN rs ps ls f t), .int .i64 (totD rs ps ls f t)], .int .i64 (totalE rs ps ls f t)] : Value) = .tuple #[.agg #[.int .i64 (ofHn (totV rs ps f t ls)), .int .i64 (ofHd (totV rs ps f t ls))], .int .i64 0] := by
  unfold totN totD
  rw [h, if_pos rfl, if_pos rfl]

set_option maxRecDepth 100000 in
set_option maxHeartbeats 4000000 in
theorem total_prog (w0 : World) (vr vp vl : Value) (rs : List RuleL) (ps : List ByteArray) (ls : List LineL) (f t : Int) (hz : ∀ r ∈ rs, RuleOk r) (hzp : ∀ s ∈ ps, s.size ≤ 9223372036854775807) (hzl : ∀ x ∈ ls, LineOk x) (h60 : ls.length ≤ 60)
    (hrr : Row w0 0 7 vr rs.length (cellsOf encR rs)) (hpr : Row w0 0 1 vp ps.length (cellsOf encS ps)) (hlr : Row w0 0 3 vl ls.length (cellsOf encL ls)) (hla : LinesAt w0 ls) :
    Calls Try.prog 10 #[vr, vp, vl, .agg #[.int .i64 f, .int .i64 t]] w0 fun e w' => e = .returned (.tuple #[.agg #[.int .i64 (totN rs ps ls f t), .int .i64 (totD rs ps ls f t)], .int .i64 (totalE rs ps ls f t)]) ∧ Below w0.heap.size w0 w' := by
  have hD := Two.start w0 f t
  have HE := Lib.hid (show totalE rs ps ls f t = if askedE rs ps ls ≠ 0 then askedE rs ps ls else if orderE ls ≠ 0 then orderE ls else if windowB f t = true then 1 else 0 from rfl)
  have HAs := Lib.hid (asked_any _ vr vp vl rs ps ls hz hzp hzl (hrr.below_w hD.bel) (hpr.below_w hD.bel) (hlr.below_w hD.bel) (fun x hx => (hla x hx).below_w hD.bel))
  obtain ⟨_, hcs⟩ := hlr.els encL_length (by decide)
  obtain ⟨p1, c1, hv1⟩ := hrr.shape
  obtain ⟨p2, c2, hv2⟩ := hpr.shape
  obtain ⟨p3, c3, hv3⟩ := hlr.shape
  subst hv1
  subst hv2
  subst hv3
  by_cases hA : askedE rs ps ls ≠ 0
  · have HT := Lib.hid (tot_bad (rs := rs) (ps := ps) (ls := ls) (f := f) (t := t) (e := askedE rs ps ls) (by rw [HE.out, if_pos hA]) hA)
    have hnb : (askedE rs ps ls != 0) = true := by simp [hA]
    generalize askedE rs ps ls = ea at *
    clear hA hcs
    go_enter Try.func10, Try.ntmps10
    go_wp2_with fail
    generalize ((w0.alloc (.cells #[.int .i64 f, .int .i64 t] 39)).alloc (.cells #[.int .i64 0, .int .i64 0] 41)) = W at *
    refine HAs.out.mono ?_
    rintro e w1 ⟨rfl, hb⟩
    have hd := hD.below hb
    clear hb hD
    obtain ⟨r0, r1, hB⟩ := hd.put (.int .i64 0) (.int .i64 0)
    have k0 := hd.res.2 0 _ rfl
    have k1 := hd.res.2 1 _ rfl
    have kf := hd.fr0
    have kf1 := hd.fr1
    clear hd
    go_wp2_with fail
    exact bodyPost_ret (v := .tuple #[.agg #[.int .i64 0, .int .i64 0], .int .i64 ea]) (by simp [results, Try.results10, go_sem, r0, r1]) rfl ⟨by rw [HT.out], hB⟩
  replace hA : askedE rs ps ls = 0 := by simpa using hA
  obtain ⟨a1, a2, a3⟩ := asked_ok hA
  have hg := rule_good hz a1
  have hl := rules_len a1
  have hx := lines_counts a3
  rw [hA] at HAs
  have HE2 := Lib.hid (show totalE rs ps ls f t = if orderE ls ≠ 0 then orderE ls else if windowB f t = true then 1 else 0 by rw [HE.out, if_neg (by simp [hA])])
  have hd60 : decide ((60 : Int) < ls.length) = false := by simp; omega
  clear hA a1 a2 a3 HE
  go_enter Try.func10, Try.ntmps10
  go_wp2_with fail
  generalize ((w0.alloc (.cells #[.int .i64 f, .int .i64 t] 39)).alloc (.cells #[.int .i64 0, .int .i64 0] 41)) = W0 at *
  refine HAs.out.mono ?_
  rintro e W ⟨rfl, hb⟩
  replace hD := hD.below hb
  have hbW := hD.bel
  clear hb HAs
  go_wp2_with fail
  go_loopw [30] (fun i wr => ∃ k : Int, 0 ≤ k ∧ k ≤ ls.length ∧ NoErr (ordAt ls) k ∧ i = .int .i64 k ∧ Below W.heap.size W wr) (fun i _ => ls.length - (intOf i).toNat)
  case atStart => exact ⟨0, by omega, by omega, NoErr.zero _, rfl, Below.refl _ _⟩
  case round =>
    obtain ⟨k, hk0, hk1, hok, rfl, hb⟩ := hrel
    by_cases hlt : k < ls.length
    · rcases hcs with ⟨_, h0⟩ | ⟨b, off, cap, hv, _, hbs, hnc, hcm, hcell⟩
      · omega
      simp only [Value.slice.injEq] at hv
      obtain ⟨rfl, _, rfl⟩ := hv
      have hall := hbW.trans (hb.mono hbW.size)
      have tr : ∀ j u, (encL (geta ls k))[j]? = some u → wr.cell? ⟨b, off + k.toNat * 3 + j, none⟩ = some u := fun j u h => (hall.cell (p := ⟨b, off + k.toNat * 3 + j, none⟩) hbs).trans (hcell k hk0 hlt j u h)
      have t0 := tr 0 _ rfl
      have t1 := tr 1 _ rfl
      have t2 := tr 2 _ rfl
      rw [Nat.add_zero] at t0
      have hm := geta_mem (l := ls) hk0 hlt
      have hxr := hla _ hm
      have hnew := (Below.refl wr.heap.size wr).alloc (Nat.le_refl _) (.cells (encL (geta ls k)).toArray 36)
      have hbn := hb.trans (hnew.mono hb.size)
      have hd := hD.below hb
      have hd := hd.below hnew
      obtain ⟨p4, c4, hv4⟩ := hxr.shape
      have q0 := cells_new wr (encL (geta ls k)).toArray 36 0 _ rfl
      have q1 := cells_new wr (encL (geta ls k)).toArray 36 1 _ rfl
      have q2 := cells_new wr (encL (geta ls k)).toArray 36 2 _ rfl
      have Ho := Lib.hid (show ordAt ls k = if 0 < k ∧ (geta ls k).week ≤ (geta ls (k - 1)).week then 7 else 0 from rfl)
      have hst := Lib.hid (fun h => hok.step (f := ordAt ls) (i := k) h)
      have hHit := Lib.hid (fun h => firstErr_hit hok hk0 hlt h)
      have hpv : k ≤ 0 ∨ (wr.alloc (.cells (encL (geta ls k)).toArray 36)).cell? ⟨b, off + (k.toNat - 1) * 3 + 1, none⟩ = some (.int .i64 (geta ls (k - 1)).week) := by
        by_cases hp : 0 < k
        · have := (hall.cell (p := ⟨b, off + (k - 1).toNat * 3 + 1, none⟩) hbs).trans (hcell (k - 1) (by omega) (by omega) 1 _ rfl)
          rw [show (k - 1).toNat = k.toNat - 1 by omega] at this
          exact .inr ((hnew.cell (p := ⟨b, off + (k.toNat - 1) * 3 + 1, none⟩) (by have := hall.size; show b < _; omega)).trans this)
        · exact .inl (by omega)
      clear tr hcell hxr hm hD hall hnew hok
      unfold encL at hbn q0 q1 q2 hd hpv
      rw [hv4] at t2 hbn q0 q1 q2 hd hpv
      generalize (geta ls k).player = s1 at *
      generalize (geta ls k).week = n1 at *
      generalize (geta ls k).stats.length = n2 at *
      go_upto_region 9 with fail
      change Below W.heap.size W (wr.alloc (.cells #[.string s1, .int .i64 n1, .slice p4 n2 c4] 36)) at hbn
      change (wr.alloc (.cells #[.string s1, .int .i64 n1, .slice p4 n2 c4] 36)).cell? _ = _ at q0
      change (wr.alloc (.cells #[.string s1, .int .i64 n1, .slice p4 n2 c4] 36)).cell? _ = _ at q1
      change (wr.alloc (.cells #[.string s1, .int .i64 n1, .slice p4 n2 c4] 36)).cell? _ = _ at q2
      change Two w0 (wr.alloc (.cells #[.string s1, .int .i64 n1, .slice p4 n2 c4] 36)) f t at hd
      change k ≤ 0 ∨ (wr.alloc (.cells #[.string s1, .int .i64 n1, .slice p4 n2 c4] 36)).cell? _ = _ at hpv
      generalize wr.alloc (.cells #[.string s1, .int .i64 n1, .slice p4 n2 c4] 36) = W2 at *
      generalize wr.heap.size = g at *
      clear t0 t1 t2 q0 q2
      by_cases hp : 0 < k
      · rcases hpv with hpv | hpv
        · omega
        generalize (geta ls (k - 1)).week = n3 at *
        by_cases hle : n1 ≤ n3
        · have HO := Lib.hid (show ordAt ls k = 7 by rw [Ho.out, if_pos ⟨hp, hle⟩])
          have HT := Lib.hid (tot_bad (rs := rs) (ps := ps) (ls := ls) (f := f) (t := t) (e := 7) (by
            have h7 : orderE ls = 7 := by unfold orderE; rw [hHit.out (by rw [HO.out]; decide), HO.out]
            rw [HE2.out, h7, if_pos (by decide)]) (by decide))
          clear Ho hHit hst HO
          go_wp2_with fail
          go_quiet (fail)
          replace hd := hd.drewN nq
          obtain ⟨r0, r1, hB⟩ := hd.put (.int .i64 0) (.int .i64 0)
          have k0 := hd.res.2 0 _ rfl
          have k1 := hd.res.2 1 _ rfl
          have kf := hd.fr0
          have kf1 := hd.fr1
          clear hd
          go_wp2_with fail
          exact bodyPost_ret (v := .tuple #[.agg #[.int .i64 0, .int .i64 0], .int .i64 7]) (by simp [results, Try.results10, go_sem, r0, r1]) rfl ⟨by rw [HT.out], hB⟩
        · have HO := Lib.hid (show ordAt ls k = 0 by rw [Ho.out, if_neg (fun h => hle h.2)])
          have hld : decide (n1 ≤ n3) = false := by simp; omega
          have HS := Lib.hid (hst.out HO.out)
          clear Ho hHit hst HO hd
          go_wp2_with fail
          go_quiet (fail)
          go_wp2_with fail
          go_roundw
          case rel => exact ⟨k + 1, by omega, by omega, HS.out, rfl, below_drewN hbn _⟩
          case measure => simp [intOf]; omega
      · have HO := Lib.hid (show ordAt ls k = 0 by rw [Ho.out, if_neg (fun h => hp h.1)])
        have hpd : decide (0 < k) = false := by simp; omega
        have HS := Lib.hid (hst.out HO.out)
        clear Ho hHit hst HO hpv hd
        go_wp2_with fail
        go_quiet (fail)
        go_wp2_with fail
        go_roundw
        case rel => exact ⟨k + 1, by omega, by omega, HS.out, rfl, below_drewN hbn _⟩
        case measure => simp [intOf]; omega
    · have HE3 := Lib.hid (show totalE rs ps ls f t = if windowB f t = true then 1 else 0 by rw [HE2.out, show orderE ls = 0 from firstErr_none (fun j h0 h1 => hok j h0 (by omega)), if_neg (by decide)])
      clear HE2 hok hk0 hk1
      have hd := hD.below hb
      clear hD hb hbW
      have w1 := hd.win.2 0 _ rfl
      have w2 := hd.win.2 1 _ rfl
      cases ho : outB f 1 t
      rotate_left
      · have HT := Lib.hid (tot_bad (rs := rs) (ps := ps) (ls := ls) (f := f) (t := t) (e := 1) (by rw [HE3.out, if_pos (by simp [windowB, ho])]) (by decide))
        have ho := Lib.hid ho
        clear hcs HE3
        obtain ⟨r0, r1, hB⟩ := hd.put (.int .i64 0) (.int .i64 0)
        have k0 := hd.res.2 0 _ rfl
        have k1 := hd.res.2 1 _ rfl
        have kf := hd.fr0
        have kf1 := hd.fr1
        clear hd
        go_wp2_with (go_at_call 26; refine (out_is _ _ _ _ ho.out _).mono ?_; rintro e w3 ⟨rfl, rfl⟩)
        exact bodyPost_ret (v := .tuple #[.agg #[.int .i64 0, .int .i64 0], .int .i64 1]) (by simp [results, Try.results10, go_sem, r0, r1]) rfl ⟨by rw [HT.out], hB⟩
      by_cases h61 : 61 < t
      · have HT := Lib.hid (tot_bad (rs := rs) (ps := ps) (ls := ls) (f := f) (t := t) (e := 1) (by rw [HE3.out, if_pos (by simp [windowB, h61])]) (by decide))
        have ho := Lib.hid ho
        clear hcs HE3
        obtain ⟨r0, r1, hB⟩ := hd.put (.int .i64 0) (.int .i64 0)
        have k0 := hd.res.2 0 _ rfl
        have k1 := hd.res.2 1 _ rfl
        have kf := hd.fr0
        have kf1 := hd.fr1
        clear hd
        go_wp2_with (go_at_call 26; refine (out_is _ _ _ _ ho.out _).mono ?_; rintro e w3 ⟨rfl, rfl⟩)
        exact bodyPost_ret (v := .tuple #[.agg #[.int .i64 0, .int .i64 0], .int .i64 1]) (by simp [results, Try.results10, go_sem, r0, r1]) rfl ⟨by rw [HT.out], hB⟩
      have HT := Lib.hid (tot_ok (rs := rs) (ps := ps) (ls := ls) (f := f) (t := t) (by rw [HE3.out, if_neg (by simp [windowB, ho]; omega)]))
      have ho := Lib.hid ho
      have h61d : decide (61 < t) = false := by simp; omega
      have HN := Lib.hid (show totV rs ps f t ls = totTo rs ps f t ls ls.length from rfl)
      clear HE3
      obtain ⟨V, hV⟩ : ∃ V, V = wr := ⟨_, rfl⟩
      subst hV
      go_wp2_with (go_at_call 26; refine (out_is _ _ _ _ ho.out _).mono ?_; rintro e w3 ⟨rfl, rfl⟩)
      clear w1 w2
      have hbW := hd.bel
      have hD := hd
      clear hd
      go_loopw [63, 13] (fun i s wr => ∃ k : Int, 0 ≤ k ∧ k ≤ ls.length ∧ i = .int .i64 k ∧ s = .int .i64 (totTo rs ps f t ls k) ∧ Below V.heap.size V wr) (fun i _ _ => ls.length - (intOf i).toNat)
      case atStart => exact ⟨0, by omega, by omega, rfl, rfl, Below.refl _ _⟩
      case round =>
        obtain ⟨k, hk0, hk1, rfl, rfl, hb⟩ := hrel
        have htb := totTo_le hg hl ps f t ls h60 hx k hk0 hk1
        by_cases hlt : k < ls.length
        · rcases hcs with ⟨_, h0⟩ | ⟨b, off, cap, hv, _, hbs, hnc, hcm, hcell⟩
          · omega
          simp only [Value.slice.injEq] at hv
          obtain ⟨rfl, _, rfl⟩ := hv
          have hall := hbW.trans (hb.mono hbW.size)
          have tr : ∀ j u, (encL (geta ls k))[j]? = some u → wr.cell? ⟨b, off + k.toNat * 3 + j, none⟩ = some u := fun j u h => (hall.cell (p := ⟨b, off + k.toNat * 3 + j, none⟩) hbs).trans (hcell k hk0 hlt j u h)
          have t0 := tr 0 _ rfl
          have t1 := tr 1 _ rfl
          have t2 := tr 2 _ rfl
          rw [Nat.add_zero] at t0
          have hm := geta_mem (l := ls) hk0 hlt
          have hxr := hla _ hm
          have hnew := (Below.refl wr.heap.size wr).alloc (Nat.le_refl _) (.cells (encL (geta ls k)).toArray 36)
          have hbn := hb.trans (hnew.mono hb.size)
          have hd := hD.below hb
          have hd := hd.below hnew
          obtain ⟨p4, c4, hv4⟩ := hxr.shape
          have q0 := cells_new wr (encL (geta ls k)).toArray 36 0 _ rfl
          have q1 := cells_new wr (encL (geta ls k)).toArray 36 1 _ rfl
          have q2 := cells_new wr (encL (geta ls k)).toArray 36 2 _ rfl
          have Hs := Lib.hid (totTo_succ rs ps f t ls k hk0 hlt)
          have Hw := Lib.hid (show weekV rs ps f t (geta ls k) = if inW f t (geta ls k) = true then ptsV rs ps (geta ls k).stats else 0 from rfl)
          have Hi := Lib.hid (show inW f t (geta ls k) = (decide (f ≤ (geta ls k).week) && decide ((geta ls k).week < t)) from rfl)
          have hcx := hx _ hm
          have hpb := ptsTo_le hg hl ps (geta ls k).stats hcx (rs.length : Int) (by omega) (by omega)
          change -10000000000000 ≤ ptsV rs ps (geta ls k).stats ∧ ptsV rs ps (geta ls k).stats ≤ 10000000000000 at hpb
          have HP := Lib.hid (points_prog _ _ _ (geta ls k).sv rs ps (geta ls k).stats (geta ls k).player (geta ls k).week hg hl hcx (hrr.below (hall.trans (hnew.mono hall.size))) ((hxr.below hall).below hnew) (hpr.below (hall.trans (hnew.mono hall.size))))
          have w1 := hd.win.2 0 _ rfl
          have w2 := hd.win.2 1 _ rfl
          clear tr hcell hxr hm hcx hD hall hnew
          unfold encL at hbn HP q0 q1 q2 w1 w2 hd
          rw [hv4] at t2 hbn HP q0 q1 q2 w1 w2 hd
          generalize (geta ls k).player = s1 at *
          generalize (geta ls k).week = n1 at *
          generalize (geta ls k).stats.length = n2 at *
          generalize ptsV rs ps (geta ls k).stats = pt at *
          go_upto_region 18 with fail
          change Below V.heap.size V (wr.alloc (.cells #[.string s1, .int .i64 n1, .slice p4 n2 c4] 36)) at hbn
          change Hid (Calls _ _ _ (wr.alloc (.cells #[.string s1, .int .i64 n1, .slice p4 n2 c4] 36)) _) at HP
          change (wr.alloc (.cells #[.string s1, .int .i64 n1, .slice p4 n2 c4] 36)).cell? _ = _ at q0
          change (wr.alloc (.cells #[.string s1, .int .i64 n1, .slice p4 n2 c4] 36)).cell? _ = _ at q1
          change (wr.alloc (.cells #[.string s1, .int .i64 n1, .slice p4 n2 c4] 36)).cell? _ = _ at q2
          change (wr.alloc (.cells #[.string s1, .int .i64 n1, .slice p4 n2 c4] 36)).cell? _ = _ at w1
          change (wr.alloc (.cells #[.string s1, .int .i64 n1, .slice p4 n2 c4] 36)).cell? _ = _ at w2
          clear hd
          generalize wr.alloc (.cells #[.string s1, .int .i64 n1, .slice p4 n2 c4] 36) = W2 at *
          generalize wr.heap.size = g at *
          clear t0 t1 t2
          generalize totTo rs ps f t ls k = tk at *
          by_cases hf : f ≤ n1
          · by_cases ht : n1 < t
            · have HV := Lib.hid (show totTo rs ps f t ls (k + 1) = tk + pt by rw [Hs.out, Hw.out, Hi.out, if_pos (by simp [hf, ht])])
              clear Hs Hw Hi
              go_wp2_with (go_at_call 27; refine HP.out.mono ?_; rintro e w3 ⟨rfl, hb3⟩; replace hbn := hbn.trans (hb3.mono hbn.size); clear hb3 q0 q1 q2 w1 w2)
              go_roundw
              case rel => exact ⟨k + 1, by omega, by omega, rfl, by rw [HV.out], hbn⟩
              case measure => simp [intOf]; omega
            · have HV := Lib.hid (show totTo rs ps f t ls (k + 1) = tk by rw [Hs.out, Hw.out, Hi.out, if_neg (by simp; omega)]; omega)
              have hd1 : decide (n1 < t) = false := by simp; omega
              clear Hs Hw Hi
              go_wp2_with fail
              go_roundw
              case rel => exact ⟨k + 1, by omega, by omega, rfl, by rw [HV.out], hbn⟩
              case measure => simp [intOf]; omega
          · have HV := Lib.hid (show totTo rs ps f t ls (k + 1) = tk by rw [Hs.out, Hw.out, Hi.out, if_neg (by simp; omega)]; omega)
            have hd1 : decide (f ≤ n1) = false := by simp; omega
            clear Hs Hw Hi
            go_wp2_with fail
            go_roundw
            case rel => exact ⟨k + 1, by omega, by omega, rfl, by rw [HV.out], hbn⟩
            case measure => simp [intOf]; omega
        · obtain rfl : k = ls.length := by omega
          clear hcs hk0 hk1 hlt
          have hd := hD.below hb
          rw [← HN.out] at htb
          rw [← HN.out]
          generalize hn : totV rs ps f t ls = n at *
          have HNN := Lib.hid hn
          clear hn hD hb
          go_wp2_with fail
          refine (ofHundredths_prog n _ (by omega) (by omega)).mono ?_
          rintro e w1 ⟨rfl, hb3⟩
          replace hd := hd.below hb3
          clear hb3
          obtain ⟨r0, r1, hB⟩ := hd.put (.int .i64 (ofHn n)) (.int .i64 (ofHd n))
          have k0 := hd.res.2 0 _ rfl
          have k1 := hd.res.2 1 _ rfl
          have kf := hd.fr0
          have kf1 := hd.fr1
          clear hd
          go_wp2_with fail
          exact bodyPost_ret (v := .tuple #[.agg #[.int .i64 (ofHn n), .int .i64 (ofHd n)], .int .i64 0]) (by simp [results, Try.results10, go_sem, r0, r1]) rfl ⟨by rw [HT.out], hB⟩
end Go.Proofs.Ytbidnbcclibigaa
