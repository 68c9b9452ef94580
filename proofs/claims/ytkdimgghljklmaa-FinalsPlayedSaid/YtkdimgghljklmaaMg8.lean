/-
  Contracts and lemmas towards the statement, of several parts; each part says ahead of it what it holds and under which conditions.
-/
import Derived.Test.YtkdimgghljklmaaMg7
import Derived.Test.YtkdimgghljklmaaMg1
import Derived.Test.YtkdimgghljklmaaMg2
import Derived.IntWalk
import Derived.WalkLawsBesides
/-
  Finals: a bracket that is played, the reference's PlayOf: the rounds, the last names. Conditions: strings are no longer than Go's; at most 1000 seeds, rounds and names.
-/
set_option linter.unusedVariables false
namespace Go.Proofs.Ytkdimgghljklmaa
open Go.RowKit Go.Bw
set_option maxRecDepth 100000 in
set_option maxHeartbeats 1000000 in
theorem prb (w0 : World) (gb : Nat) (vt vr : Value) (ts : List ByteArray) (rs : List (List ByteArray)) (h : QH w0 gb vt vr ts rs) (hg : SGood ts) (hLh : Hid ((rs.length : Int) = roundsF ts.length)) (hse : seedsE ts = 0) (k : Int) : T3 Try.prog (fun a w => ∃ (v7 v11 : Value), ((0 ≤ k ∧ k < rs.length) ∧ NoErr (rndK ts rs) k) ∧ (QR w0 ts rs v7 v11 k w) ∧ Fr 146 [(1, vr), (2, .pointer (some ⟨gb, 0, none⟩)), (7, v7), (10, .func (.func 64) #[] #[.pointer (some ⟨gb, 0, none⟩)]), (11, v11), (48, vr), (49, .int .i64 rs.length), (50, .int .i64 k)] a) (sel [1, 1, 1, 1, 1, 1, 1, 0, 1, 4, 4, 1, 1, 0] poR) (fun a w => ∃ (v7 v11 : Value), ((0 ≤ k ∧ k < rs.length) ∧ NoErr (rndK ts rs) (k + 1)) ∧ (QR w0 ts rs v7 v11 (k + 1) w) ∧ Fr 146 [(1, vr), (2, .pointer (some ⟨gb, 0, none⟩)), (7, v7), (10, .func (.func 64) #[] #[.pointer (some ⟨gb, 0, none⟩)]), (11, v11), (48, vr), (49, .int .i64 rs.length), (50, .int .i64 k)] a) No 100 (fun a w => ∃ v4 : Value, Fr 146 [(4, v4), (5, .int .i64 (playE ts rs))] a ∧ w.ownsRow w0.heap.size 9 1 v4 (playL ts rs).length (cellsOf encSt (playL ts rs)) ∧ Below w0.heap.size w0 w) := by
  have hrn := h.r.n
  have hL := hLh.out
  refine T3.block (id' := 3) (c := (sel [1, 1, 1, 1, 1, 1, 1, 0, 1, 4, 4, 1, 1, 0, 4] poR)) (by decide) ?_
  refine T3.ex fun v7 => T3.ex fun v11 => ?_
  refine T3.seq (s := (sel [1, 1, 1, 1, 1, 1, 1, 0, 1, 4, 4, 1, 1, 0, 4, 0] poR)) (c := (sel [1, 1, 1, 1, 1, 1, 1, 0, 1, 4, 4, 1, 1, 0, 4, 1] poR)) ((pr16 w0 gb vt vr ts rs h hg hL k v7 v11).noX) (T3.ex fun v13 => T3.pure fun hp => ?_)
  obtain ⟨hk, hn⟩ := hp
  have l := lk_now w0 gb vt vr ts rs h hg hL k hk hn
  have hlen := l.len
  refine T3.seq (s := (sel [1, 1, 1, 1, 1, 1, 1, 0, 1, 4, 4, 1, 1, 0, 4, 1, 0] poR)) (c := (sel [1, 1, 1, 1, 1, 1, 1, 0, 1, 4, 4, 1, 1, 0, 4, 1, 1] poR)) (S := fun a w => ((wsAt rs k.toNat).length = 2 ^ (rN ts - k.toNat - 1)) ∧ (QR w0 ts rs v7 v11 k w ∧ Row w 0 1 v13 (wsAt rs k.toNat).length (cellsOf encSt (wsAt rs k.toNat))) ∧ Fr 146 [(1, vr), (2, .pointer (some ⟨gb, 0, none⟩)), (7, v7), (10, .func (.func 64) #[] #[.pointer (some ⟨gb, 0, none⟩)]), (11, v11), (13, v13), (48, vr), (49, .int .i64 rs.length), (50, .int .i64 k)] a) ?_ (T3.pure fun hws => ?_)
  · refine T3.test (s := (sel [1, 1, 1, 1, 1, 1, 1, 0, 1, 4, 4, 1, 1, 0, 4, 1, 0, 0] poR)) (x := (sel [1, 1, 1, 1, 1, 1, 1, 0, 1, 4, 4, 1, 1, 0, 4, 1, 0, 1, 2] poR)) (y := .skip) (C := fun q => (q = (((wsAt rs k.toNat).length : Int) != ((2 ^ (rN ts - k.toNat - 1) : Nat) : Int)))) (W := fun w => QR w0 ts rs v7 v11 k w ∧ Row w 0 1 v13 (wsAt rs k.toNat).length (cellsOf encSt (wsAt rs k.toNat))) (by decide) ((pr17 w0 gb vt vr ts rs h hg hL k v7 v11 v13 hk hn).noX) ?_ (T3.skip ?_)
    · refine T3.seq (s := (sel [1, 1, 1, 1, 1, 1, 1, 0, 1, 4, 4, 1, 1, 0, 4, 1, 0, 1, 2, 0] poR)) (c := .ret) (t3_seqx (p := ¬ (wsAt rs k.toNat).length = 2 ^ (rN ts - k.toNat - 1)) ((pr18 w0 gb vt vr ts rs h hg hL k v7 v11 v13 hk hn).noX) ?_) (T3.ret ?_)
      · rintro a w ⟨hF, hq, hW⟩
        refine ⟨fun e => ?_, hW, hF.tail⟩
        rw [e] at hq
        simp at hq
      · rintro a w ⟨hp, hW, hF⟩
        have e : rndK ts rs k = 3 := by unfold rndK; exact rnd_form l hp
        have e2 := pe_hit hse hL hk.1 hk.2 hn (by rw [e]; decide)
        rw [e] at e2
        exact ⟨_, by rw [e2]; exact hF, by rw [playL_bad (by rw [e2]; decide)]; exact World.ownsRow_nil _ _ _ _, hW⟩
    · rintro a w ⟨hq, hW, hF⟩
      refine ⟨Decidable.byContradiction fun e => ?_, hW, hF⟩
      have := hq.symm
      simp only [bne_eq_false_iff_eq] at this
      omega
  have pn : PyN (wsAt rs k.toNat) (2 ^ (rN ts - k.toNat - 1)) := ⟨by omega, by omega⟩
  refine T3.seq (s := (sel [1, 1, 1, 1, 1, 1, 1, 0, 1, 4, 4, 1, 1, 0, 4, 1, 1, 0] poR)) (c := (sel [1, 1, 1, 1, 1, 1, 1, 0, 1, 4, 4, 1, 1, 0, 4, 1, 1, 1] poR)) ((pr19 w0 gb vt vr ts rs h hg hL k v7 v11 v13 hk hn).noX) ?_
  refine T3.pre (R := fun a w => ∃ w1, (QR w0 ts rs v7 v11 k w1 ∧ Row w1 0 1 v13 (wsAt rs k.toNat).length (cellsOf encSt (wsAt rs k.toNat))) ∧ (IsW w1 w) ∧ Fr 146 [(1, vr), (2, .pointer (some ⟨gb, 0, none⟩)), (7, v7), (10, .func (.func 64) #[] #[.pointer (some ⟨gb, 0, none⟩)]), (11, v11), (13, v13), (14, .slice none 0 0), (15, .slice none 0 0), (48, vr), (49, .int .i64 rs.length), (50, .int .i64 k)] a) (T3.ex fun w1 => T3.pure fun hq => ?_) (fun a w q => ⟨w, q.1, rfl, q.2⟩)
  have hq1 := hq.1
  have hqi : QI w0 gb vt ts w1 v7 v13 (leftK ts rs k.toNat) (wsAt rs k.toNat) (2 ^ (rN ts - k.toNat - 1)) := ⟨hq1.bel, hg, l, pn, (Row.of_owns hq1.lf).mono (Nat.zero_le _), hq.2, h.r.m _, lk_hi hg k.toNat (by have := (rN_b hg).2.2; omega) (by rw [Int.toNat_of_nonneg hk.1]; exact hn)⟩
  have p8 : P8 ts rs (leftK ts rs k.toNat) (wsAt rs k.toNat) := ⟨fun e8 => by
    have e : rndK ts rs k = 8 := e8
    rw [pe_hit hse hL hk.1 hk.2 hn (by rw [e]; decide), e]⟩
  have hkk : (k + 1).toNat = k.toNat + 1 := by omega
  refine T3.seq (s := (sel [1, 1, 1, 1, 1, 1, 1, 0, 1, 4, 4, 1, 1, 0, 4, 1, 1, 1, 0] poR)) (c := (sel [1, 1, 1, 1, 1, 1, 1, 0, 1, 4, 4, 1, 1, 0, 4, 1, 1, 1, 1] poR)) (S := (fun a w => ∃ (vN vL : Value), (NoErr (gErr ts (leftK ts rs k.toNat) (wsAt rs k.toNat)) (wsAt rs k.toNat).length) ∧ (Pr2 w1 w 3 vN vL (winL ts (leftK ts rs k.toNat) (wsAt rs k.toNat) (wsAt rs k.toNat).length) (losL ts (leftK ts rs k.toNat) (wsAt rs k.toNat) (wsAt rs k.toNat).length)) ∧ Fr 146 [(1, vr), (2, .pointer (some ⟨gb, 0, none⟩)), (7, v7), (10, .func (.func 64) #[] #[.pointer (some ⟨gb, 0, none⟩)]), (11, v11), (14, vN), (15, vL), (48, vr), (49, .int .i64 rs.length), (50, .int .i64 k)] a)) (T3.seq (s := (sel [1, 1, 1, 1, 1, 1, 1, 0, 1, 4, 4, 1, 1, 0, 4, 1, 1, 1, 0, 0] poR)) (c := (sel [1, 1, 1, 1, 1, 1, 1, 0, 1, 4, 4, 1, 1, 0, 4, 1, 1, 1, 0, 1] poR)) ((pq20 w0 gb vt vr ts rs h w1 v7 v11 v13 (leftK ts rs k.toNat) (wsAt rs k.toNat) (2 ^ (rN ts - k.toNat - 1)) hqi k).noX) ((pqlloop w0 gb vt vr ts rs h w1 v7 v11 v13 (leftK ts rs k.toNat) (wsAt rs k.toNat) (2 ^ (rN ts - k.toNat - 1)) hqi k p8).noX)) ?_
  refine T3.ex fun vN => T3.ex fun vL => T3.pure fun hnn => ?_
  refine T3.pre (R := (fun a w => (Pr2 w1 w 3 vN vL (leftK ts rs (k + 1).toNat) (losK ts rs k.toNat)) ∧ Fr 146 [(1, vr), (2, .pointer (some ⟨gb, 0, none⟩)), (7, v7), (10, .func (.func 64) #[] #[.pointer (some ⟨gb, 0, none⟩)]), (11, v11), (14, vN), (15, vL), (48, vr), (49, .int .i64 rs.length), (50, .int .i64 k)] a)) ?_ (fun a w q => by rw [hkk]; exact q)
  refine T3.seq (s := (sel [1, 1, 1, 1, 1, 1, 1, 0, 1, 4, 4, 1, 1, 0, 4, 1, 1, 1, 1, 0] poR)) (c := (sel [1, 1, 1, 1, 1, 1, 1, 0, 1, 4, 4, 1, 1, 0, 4, 1, 1, 1, 1, 1] poR)) ((pr32 w0 gb vt vr ts rs h hg hL k v7 v11 v13 hk hn w1 hq1 vN vL).noX) ?_
  refine T3.seq (s := (sel [1, 1, 1, 1, 1, 1, 1, 0, 1, 4, 4, 1, 1, 0, 4, 1, 1, 1, 1, 1, 0] poR)) (c := (sel [1, 1, 1, 1, 1, 1, 1, 0, 1, 4, 4, 1, 1, 0, 4, 1, 1, 1, 1, 1, 1] poR)) ((pr33 w0 gb vt vr ts rs h hg hL k v7 v11 v13 hk hn w1 hq1 vN vL).noX) ?_
  refine T3.pre (R := (fun a w => (QN w0 ts vN vL v11 (leftK ts rs (k + 1).toNat) (sortL (losK ts rs k.toNat)).reverse (outK ts rs k.toNat) w) ∧ Fr 146 [(1, vr), (2, .pointer (some ⟨gb, 0, none⟩)), (10, .func (.func 64) #[] #[.pointer (some ⟨gb, 0, none⟩)]), (11, v11), (14, vN), (15, vL), (48, vr), (49, .int .i64 rs.length), (50, .int .i64 k)] a)) ?_ (fun a w q => ⟨QN.of hq1 q.1, q.2.sub (by simp)⟩)
  refine T3.seq (s := (sel [1, 1, 1, 1, 1, 1, 1, 0, 1, 4, 4, 1, 1, 0, 4, 1, 1, 1, 1, 1, 1, 0] poR)) (c := (sel [1, 1, 1, 1, 1, 1, 1, 0, 1, 4, 4, 1, 1, 0, 4, 1, 1, 1, 1, 1, 1, 1] poR)) (T3.seq (s := (sel [1, 1, 1, 1, 1, 1, 1, 0, 1, 4, 4, 1, 1, 0, 4, 1, 1, 1, 1, 1, 1, 0, 0] poR)) (c := (sel [1, 1, 1, 1, 1, 1, 1, 0, 1, 4, 4, 1, 1, 0, 4, 1, 1, 1, 1, 1, 1, 0, 1] poR)) ((pn34 w0 gb vt vr ts rs h k vN vL (sortL (losK ts rs k.toNat)).reverse (outK ts rs k.toNat) (leftK ts rs (k + 1).toNat) (by rw [List.length_reverse, sortL_length, los_len]; exact h.r.m _) (by have := out_len (ts := ts) h.r.m k.toNat; omega) (los_pos l pn) v11).noX) ((pnloop w0 gb vt vr ts rs h k vN vL (sortL (losK ts rs k.toNat)).reverse (outK ts rs k.toNat) (leftK ts rs (k + 1).toNat) (by rw [List.length_reverse, sortL_length, los_len]; exact h.r.m _) (by have := out_len (ts := ts) h.r.m k.toNat; omega) (los_pos l pn)).noX)) (T3.ex fun v11b => ?_)
  refine ((pn40 w0 gb vt vr ts rs h k vN vL (sortL (losK ts rs k.toNat)).reverse (outK ts rs k.toNat) (leftK ts rs (k + 1).toNat) (by rw [List.length_reverse, sortL_length, los_len]; exact h.r.m _) (by have := out_len (ts := ts) h.r.m k.toNat; omega) (los_pos l pn) v11b).noX).post ?_
  rintro a w ⟨hW, hF⟩
  have hz : rndK ts rs k = 0 := by
    unfold rndK
    refine rnd_ok l pn ?_
    rw [← hws]
    exact hnn
  refine ⟨vN, v11b, ⟨hk, hn.step hz⟩, ⟨hW.bel, hW.nw, ?_⟩, hF.sub (by simp)⟩
  have e : outK ts rs (k + 1).toNat = outK ts rs k.toNat ++ realL ts.length (sortL (losK ts rs k.toNat)).reverse := by rw [hkk]; rfl
  rw [e]
  exact hW.nm

def prI (w0 : World) (gb : Nat) (vt vr : Value) (ts : List ByteArray) (rs : List (List ByteArray)) (h : QH w0 gb vt vr ts rs) (hg : SGood ts) (hLh : Hid ((rs.length : Int) = roundsF ts.length)) (hse : seedsE ts = 0) (k : Int) (a : Act) (w : World) : Prop := (0 ≤ k ∧ k ≤ rs.length) ∧ ∃ (v7 v11 : Value), (NoErr (rndK ts rs) k) ∧ (QR w0 ts rs v7 v11 k w) ∧ Fr 146 [(1, vr), (2, .pointer (some ⟨gb, 0, none⟩)), (7, v7), (10, .func (.func 64) #[] #[.pointer (some ⟨gb, 0, none⟩)]), (11, v11), (48, vr), (49, .int .i64 rs.length), (50, .int .i64 k)] a
set_option maxRecDepth 100000 in
set_option maxHeartbeats 1000000 in
theorem prt (w0 : World) (gb : Nat) (vt vr : Value) (ts : List ByteArray) (rs : List (List ByteArray)) (h : QH w0 gb vt vr ts rs) (hg : SGood ts) (hLh : Hid ((rs.length : Int) = roundsF ts.length)) (hse : seedsE ts = 0) (k : Int) : T3 Try.prog (fun a w => prI w0 gb vt vr ts rs h hg hLh hse k a w) (sel [1, 1, 1, 1, 1, 1, 1, 0, 1, 4, 4, 0] poR) (fun a w => ∃ q, Fr 146 ((51, .bool q) :: [(50, .int .i64 k)]) a ∧ ((q = true ↔ k < rs.length) ∧ prI w0 gb vt vr ts rs h hg hLh hse k a w)) No 9 (fun a w => ∃ v4 : Value, Fr 146 [(4, v4), (5, .int .i64 (playE ts rs))] a ∧ w.ownsRow w0.heap.size 9 1 v4 (playL ts rs).length (cellsOf encSt (playL ts rs)) ∧ Below w0.heap.size w0 w) := by
  refine T3.leaf ?_
  rintro Q JS JX JT K hS hK hX hE hT hR a w ⟨hk, v7, v11, hpre, hW, ⟨fr, rfl, q1, q2, q7, q10, q11, q48, q49, q50, _⟩⟩
  have hrn := h.r.n
  rw [fr_poR, show fr 1 = _ from q1, show fr 2 = _ from q2, show fr 7 = _ from q7, show fr 10 = _ from q10, show fr 11 = _ from q11, show fr 48 = _ from q48, show fr 49 = _ from q49, show fr 50 = _ from q50]
  clear q1 q2 q7 q10 q11 q48 q49 q50
  conv => arg 2; whnf
  by_cases hlt : k < rs.length
  · go_wp2_with fail
    refine Met.intro (hS _ _ ?_)
    exact ⟨true, Fr.of _ rfl ⟨rfl, rfl, trivial⟩, ⟨fun _ => hlt, fun _ => rfl⟩, hk, v7, v11, hpre, hW, Fr.of _ rfl ⟨rfl, rfl, rfl, rfl, rfl, rfl, rfl, rfl, trivial⟩⟩
  · have hpb : decide (k < (rs.length : Int)) = false := by simp; omega
    go_wp2_with fail
    refine Met.intro (hS _ _ ?_)
    exact ⟨false, Fr.of _ rfl ⟨rfl, rfl, trivial⟩, ⟨(fun h => by cases h), fun h => absurd h (by omega)⟩, hk, v7, v11, hpre, hW, Fr.of _ rfl ⟨rfl, rfl, rfl, rfl, rfl, rfl, rfl, rfl, trivial⟩⟩

set_option maxRecDepth 100000 in
set_option maxHeartbeats 1000000 in
theorem prn (w0 : World) (gb : Nat) (vt vr : Value) (ts : List ByteArray) (rs : List (List ByteArray)) (h : QH w0 gb vt vr ts rs) (hg : SGood ts) (hLh : Hid ((rs.length : Int) = roundsF ts.length)) (hse : seedsE ts = 0) (k : Int) : T3 Try.prog (fun a w => (0 ≤ k ∧ k < rs.length) ∧ ∃ (v7 v11 : Value), (NoErr (rndK ts rs) (k + 1)) ∧ (QR w0 ts rs v7 v11 (k + 1) w) ∧ Fr 146 [(1, vr), (2, .pointer (some ⟨gb, 0, none⟩)), (7, v7), (10, .func (.func 64) #[] #[.pointer (some ⟨gb, 0, none⟩)]), (11, v11), (48, vr), (49, .int .i64 rs.length), (50, .int .i64 k)] a) (sel [1, 1, 1, 1, 1, 1, 1, 0, 1, 4, 4, 1, 1, 1] poR) (fun a w => prI w0 gb vt vr ts rs h hg hLh hse (k + 1) a w) No 9 (fun a w => ∃ v4 : Value, Fr 146 [(4, v4), (5, .int .i64 (playE ts rs))] a ∧ w.ownsRow w0.heap.size 9 1 v4 (playL ts rs).length (cellsOf encSt (playL ts rs)) ∧ Below w0.heap.size w0 w) := by
  refine T3.leaf ?_
  rintro Q JS JX JT K hS hK hX hE hT hR a w ⟨hk, v7, v11, hpre, hW, ⟨fr, rfl, q1, q2, q7, q10, q11, q48, q49, q50, _⟩⟩
  obtain ⟨hk0, hk1⟩ := hk
  have hrn := h.r.n
  rw [fr_poR, show fr 1 = _ from q1, show fr 2 = _ from q2, show fr 7 = _ from q7, show fr 10 = _ from q10, show fr 11 = _ from q11, show fr 48 = _ from q48, show fr 49 = _ from q49, show fr 50 = _ from q50]
  clear q1 q2 q7 q10 q11 q48 q49 q50
  conv => arg 2; whnf
  go_wp2_with fail
  refine Met.intro (hS _ _ ?_)
  exact ⟨⟨by omega, by omega⟩, v7, v11, hpre, hW, Fr.of _ rfl ⟨rfl, rfl, rfl, rfl, rfl, rfl, rfl, rfl, trivial⟩⟩

set_option maxRecDepth 100000 in
set_option maxHeartbeats 1000000 in
theorem prloop (w0 : World) (gb : Nat) (vt vr : Value) (ts : List ByteArray) (rs : List (List ByteArray)) (h : QH w0 gb vt vr ts rs) (hg : SGood ts) (hLh : Hid ((rs.length : Int) = roundsF ts.length)) (hse : seedsE ts = 0) : T3 Try.prog (fun a w => prI w0 gb vt vr ts rs h hg hLh hse 0 a w) (sel [1, 1, 1, 1, 1, 1, 1, 0, 1] poR) (fun a w => ∃ (v7 v11 : Value), (NoErr (rndK ts rs) rs.length) ∧ (QR w0 ts rs v7 v11 (rs.length : Int) w) ∧ Fr 146 [(1, vr), (2, .pointer (some ⟨gb, 0, none⟩)), (7, v7), (10, .func (.func 64) #[] #[.pointer (some ⟨gb, 0, none⟩)]), (11, v11)] a) No 9 (fun a w => ∃ v4 : Value, Fr 146 [(4, v4), (5, .int .i64 (playE ts rs))] a ∧ w.ownsRow w0.heap.size 9 1 v4 (playL ts rs).length (cellsOf encSt (playL ts rs)) ∧ Below w0.heap.size w0 w) := by
  refine T3.loop (c := (sel [1, 1, 1, 1, 1, 1, 1, 0, 1, 4, 4] poR)) (fun ng_ a w => ∃ k : Int, (ng_ : Int) = rs.length - k ∧ prI w0 gb vt vr ts rs h hg hLh hse k a w) (fun a w h => ⟨(rs.length : Int).toNat, 0, by have := h.1.2; omega, h⟩) (fun ng_ => T3.ex fun k => T3.pure fun hng_ => ?_)
  refine T3.seq (s := (sel [1, 1, 1, 1, 1, 1, 1, 0, 1, 4, 4, 0] poR)) (c := (sel [1, 1, 1, 1, 1, 1, 1, 0, 1, 4, 4, 1] poR)) ((prt w0 gb vt vr ts rs h hg hLh hse k).noX) ?_
  refine T3.seq (s := (sel [1, 1, 1, 1, 1, 1, 1, 0, 1, 4, 4, 1, 0] poR)) (c := (sel [1, 1, 1, 1, 1, 1, 1, 0, 1, 4, 4, 1, 1] poR)) (S := fun a w => (0 ≤ k ∧ k < rs.length) ∧ ∃ (v7 v11 : Value), (NoErr (rndK ts rs) k) ∧ (QR w0 ts rs v7 v11 k w) ∧ Fr 146 [(1, vr), (2, .pointer (some ⟨gb, 0, none⟩)), (7, v7), (10, .func (.func 64) #[] #[.pointer (some ⟨gb, 0, none⟩)]), (11, v11), (48, vr), (49, .int .i64 rs.length), (50, .int .i64 k)] a) ?_ (T3.seq (s := (sel [1, 1, 1, 1, 1, 1, 1, 0, 1, 4, 4, 1, 1, 0] poR)) (c := (sel [1, 1, 1, 1, 1, 1, 1, 0, 1, 4, 4, 1, 1, 1] poR)) (S := fun a w => (0 ≤ k ∧ k < rs.length) ∧ ∃ (v7 v11 : Value), (NoErr (rndK ts rs) (k + 1)) ∧ (QR w0 ts rs v7 v11 (k + 1) w) ∧ Fr 146 [(1, vr), (2, .pointer (some ⟨gb, 0, none⟩)), (7, v7), (10, .func (.func 64) #[] #[.pointer (some ⟨gb, 0, none⟩)]), (11, v11), (48, vr), (49, .int .i64 rs.length), (50, .int .i64 k)] a) (T3.noX (T3.mono (R' := fun a w => (0 ≤ k ∧ k < rs.length) ∧ ∃ (v7 v11 : Value), (NoErr (rndK ts rs) k) ∧ (QR w0 ts rs v7 v11 k w) ∧ Fr 146 [(1, vr), (2, .pointer (some ⟨gb, 0, none⟩)), (7, v7), (10, .func (.func 64) #[] #[.pointer (some ⟨gb, 0, none⟩)]), (11, v11), (48, vr), (49, .int .i64 rs.length), (50, .int .i64 k)] a) (S' := fun a w => (0 ≤ k ∧ k < rs.length) ∧ ∃ (v7 v11 : Value), (NoErr (rndK ts rs) (k + 1)) ∧ (QR w0 ts rs v7 v11 (k + 1) w) ∧ Fr 146 [(1, vr), (2, .pointer (some ⟨gb, 0, none⟩)), (7, v7), (10, .func (.func 64) #[] #[.pointer (some ⟨gb, 0, none⟩)]), (11, v11), (48, vr), (49, .int .i64 rs.length), (50, .int .i64 k)] a) (prb w0 gb vt vr ts rs h hg hLh hse k) (fun a w ⟨hk, v7, v11, hp, hI⟩ => ⟨v7, v11, ⟨hk, hp⟩, hI⟩) (fun a w ⟨v7, v11, ⟨hk, hp⟩, hI⟩ => ⟨hk, v7, v11, hp, hI⟩) (fun _ _ q => q) (fun _ _ q => q))) ?_)
  · refine T3.cond (o := .tmp 51) (x := .skip) (y := .exit 2) (fun a w => k < rs.length ∧ prI w0 gb vt vr ts rs h hg hLh hse k a w) (fun a w => ¬ k < rs.length ∧ prI w0 gb vt vr ts rs h hg hLh hse k a w) ?_ (T3.skip ?_) (T3.exit ?_)
    · rintro a w ⟨q, hF, hq, hI⟩
      have he := hF.eval 51 (by decide) (v := .bool q) (by simp)
      cases q
      · exact .inr ⟨he, (fun h => by have := hq.2 h; cases this), hI⟩
      · exact .inl ⟨he, hq.1 rfl, hI⟩
    · rintro a w ⟨hlt, hk, hI⟩
      exact ⟨⟨hk.1, hlt⟩, hI⟩
    · rintro a w ⟨hlt, hk, hI⟩
      obtain rfl : k = rs.length := by omega
      obtain ⟨v7, v11, hn, hW, hF⟩ := hI
      exact ⟨v7, v11, hn, hW, hF.sub (by simp)⟩
  · intro a w hx
    have hk := hx.1
    exact (((prn w0 gb vt vr ts rs h hg hLh hse k).noX).post (fun a w q => ⟨ng_ - 1, by omega, k + 1, by omega, q⟩)) a w hx
end Go.Proofs.Ytkdimgghljklmaa
/-
  Finals: a bracket that is played, the reference's PlayOf, from end to end. Conditions: strings are no longer than Go's; at most 1000 seeds, rounds and names.
-/
set_option linter.unusedVariables false
namespace Go.Proofs.Ytkdimgghljklmaa
open Go.RowKit Go.Bw
/-- A list of strings of the call's own. -/
structure OwS (w0 : World) (v : Value) (l : List ByteArray) (w : World) : Prop where
  bel : Below w0.heap.size w0 w
  own : w.ownsRow w0.heap.size 9 1 v l.length (cellsOf encSt l)
theorem OwS.app {w0 w w' : World} {v v' : Value} {l : List ByteArray} {x : ByteArray} (h : OwS w0 v l w) (ho : w'.ownsRow w0.heap.size 9 1 v' (l.length + 1) (cellsOf encSt l ++ [.string x])) (g : w.grownBy w' v.ownBlock) : OwS w0 v' (l ++ [x]) w' :=
  ⟨h.bel.grown g h.bel.size (fun k hk => (h.own.lt k hk).1), by rw [cellsOf_snoc, List.length_append]; exact ho⟩
theorem OwS.alloc {w0 w : World} {v : Value} {l : List ByteArray} (h : OwS w0 v l w) (ob : Obj) : OwS w0 v l (w.alloc ob) := ⟨h.bel.alloc h.bel.size ob, h.own.alloc ob⟩
theorem lk_end {ts : List ByteArray} {rs : List (List ByteArray)} (hg : SGood ts) (hL : (rs.length : Int) = roundsF ts.length) (hn : NoErr (rndK ts rs) rs.length) : (leftK ts rs rs.length).length = 1 ∧ (0 ≤ geti (leftK ts rs rs.length) 0 ∧ geti (leftK ts rs rs.length) 0 < ts.length) := by
  have hb := rN_b hg
  have h2 := hb.2.2
  have hlen : (leftK ts rs rs.length).length = 1 := by
    rw [(lk_all hg rs.length (by omega) hn).len, show rN ts - rs.length = 0 by omega]
  refine ⟨hlen, ?_⟩
  obtain ⟨m, hm⟩ : ∃ m, rs.length = m + 1 := ⟨rs.length - 1, by omega⟩
  have hnm : NoErr (rndK ts rs) m := fun j h0 h1 => hn j h0 (by omega)
  have l := lk_all hg (rs := rs) m (by omega) hnm
  have hz := hn (m : Int) (by omega) (by omega)
  unfold rndK at hz
  rw [Int.toNat_natCast] at hz
  have hin := lk_in hg l (by omega) hz
  rw [← hm] at hin
  exact hin _ (geti_mem (by omega) (by omega))
set_option maxRecDepth 100000 in
set_option maxHeartbeats 1000000 in
theorem pr42 (w0 : World) (gb : Nat) (vt vr : Value) (ts : List ByteArray) (rs : List (List ByteArray)) (h : QH w0 gb vt vr ts rs) (hg : SGood ts) (hLh : Hid ((rs.length : Int) = roundsF ts.length)) (hse : seedsE ts = 0) (hn : NoErr (rndK ts rs) rs.length) (v7 v11 : Value) : T3 Try.prog (fun a w => (QR w0 ts rs v7 v11 (rs.length : Int) w) ∧ Fr 146 [(1, vr), (2, .pointer (some ⟨gb, 0, none⟩)), (7, v7), (10, .func (.func 64) #[] #[.pointer (some ⟨gb, 0, none⟩)]), (11, v11)] a) (sel [1, 1, 1, 1, 1, 1, 1, 1, 0] poR) (fun a w => ∃ (v11' : Value), (OwS w0 v11' (namesI ts (outK ts rs rs.length) ++ [geta ts (geti (leftK ts rs rs.length) 0)]) w) ∧ Fr 146 [(11, v11')] a) No 9 (fun a w => ∃ v4 : Value, Fr 146 [(4, v4), (5, .int .i64 (playE ts rs))] a ∧ w.ownsRow w0.heap.size 9 1 v4 (playL ts rs).length (cellsOf encSt (playL ts rs)) ∧ Below w0.heap.size w0 w) := by
  refine T3.leafN ?_
  rintro JS hS a w ⟨hW, ⟨fr, rfl, q1, q2, q7, q10, q11, _⟩⟩
  have hL := hLh.out
  have HZ := (lk_end hg hL hn).1
  obtain ⟨hx0, hx1⟩ := (lk_end hg hL hn).2
  have hrn := h.r.n
  have htn := h.s.tn
  have hol := out_len (ts := ts) h.r.m rs.length
  have hnl := namesI_length ts (outK ts rs rs.length)
  obtain ⟨hbel, hlf, hnm⟩ := hW
  rw [Int.toNat_natCast] at hlf hnm
  rw [← hnl] at hnm
  have hlen1 : (namesI ts (outK ts rs rs.length)).length ≤ 1000000 := by omega
  have HD := (OwS.mk hbel hnm)
  have HD := OwS.mk (HD.bel.trans ((below_drewN (Below.refl w.heap.size w) 1).mono HD.bel.size)) (owns_below HD.own (below_drewN (Below.refl _ _) 1) (Nat.le_refl _))
  change OwS w0 v11 _ w.drew at HD
  obtain ⟨_, hcs⟩ := (Row.of_owns hlf).ints
  have hgb := World.block_lt_of_cell? w0 _ h.c
  have xc := h.cell hbel
  have hne2 : v11.ownBlock ≠ some gb := fun e => by
    have := (hnm.lt _ e).1
    have : gb < w0.heap.size := hgb
    omega
  rcases hcs with ⟨rfl, h0⟩ | ⟨bz, off, cap, rfl, _, hbz, hnc, hcm, hcell⟩
  · omega
  have hne7 : v11.ownBlock ≠ some bz := by
    by_cases hnn : v11.ownBlock = none
    · rw [hnn]
      exact fun e => by cases e
    · exact own_ne hnm hlf (by decide) hnn
  have t0 : w.cell? ⟨bz, off, none⟩ = some (.int .i64 (geti (leftK ts rs rs.length) 0)) := hcell 0 (by omega) (by omega)
  clear hcell
  obtain ⟨_, hcs⟩ := h.s.t.els encSt_length (by decide)
  rcases hcs with ⟨rfl, h0⟩ | ⟨bs, of2, cp2, rfl, _, hbs, hnc2, hcm2, hcell⟩
  · omega
  have t1 := hcell (geti (leftK ts rs rs.length) 0) hx0 hx1 0 _ rfl
  rw [Nat.mul_one, Nat.add_zero] at t1
  have hbs0 := World.block_lt_of_cell? w0 _ t1
  have t1 := (hbel.cell hbs0).trans t1
  have hne1 : v11.ownBlock ≠ some bs := fun e => by
    have := (hnm.lt _ e).1
    have : bs < w0.heap.size := hbs0
    omega
  obtain ⟨pr, cr, hvr⟩ := h.r.shape
  subst hvr
  obtain ⟨p11, c11, hv11⟩ := (Row.of_owns hnm).shape
  have hEL := el_strs
  clear hcell hL hn hse hol hlf hnm hbel hLh h hnl
  generalize leftK ts rs rs.length = LF at *
  generalize hx : geti LF 0 = x at *
  generalize namesI ts (outK ts rs rs.length) = NN at *
  generalize hnmx : geta ts x = nm at *
  clear hx hnmx
  subst hv11
  rw [fr_poR, show fr 1 = _ from q1, show fr 2 = _ from q2, show fr 7 = _ from q7, show fr 10 = _ from q10, show fr 11 = _ from q11]
  clear q1 q2 q7 q10 q11
  conv => arg 2; whnf
  refine wp_region_mix ((.slice p11 NN.length c11 : Value).ownBlock) [(true, 0), (true, 1), (true, 2), (true, 3), (true, 4), (true, 5), (true, 6), (false, 7), (false, 8), (true, 9)] (by kernel_rfl) (by kernel_rfl) (by intro c a d v w h; cases d <;> exact h) ?_
  simp only [pickFlat, List.filterMap_cons, List.filterMap_nil, List.getElem?_cons_succ, List.getElem?_cons_zero, Option.map_some]
  have A1 := wof_at (w₁ := w.drew) (row := (.slice p11 NN.length c11 : Value).ownBlock) (a := ⟨gb, 0, none⟩) xc hne2
  have A4 := wof_at (w₁ := w.drew) (row := (.slice p11 NN.length c11 : Value).ownBlock) (a := ⟨bz, off, none⟩) t0 hne7
  have A6 := wof_at (w₁ := w.drew) (row := (.slice p11 NN.length c11 : Value).ownBlock) (a := ⟨bs, of2 + x.toNat, none⟩) t1 hne1
  refine flat_hide (fun W hH hC hN hE => ?_)
  iterate 7 (refine hH.out _ _ _ _ (fun K hK => ?_); go_simp; refine hK _ ?_; clear hK K)
  refine hC.out _ _ _ _ (by first | rfl | go_simp) (fun K hK => ?_)
  simp only [bare]
  go_wp2_with fail
  refine hK.out _ _ (World.grownBy_alloc w.drew _ _) ?_
  clear hK K
  refine hC.out _ _ _ _ (by first | rfl | go_simp) (fun K hK => ?_)
  simp only [bare]
  go_wp2_with (at_builtin; refine app_law rfl _ _ _ rfl hEL (HD.own.alloc _) rfl [.string nm] rfl rfl (cells_new w.drew #[_] _) (by simp [Value.oneCell']) (by omega) (by have := HD.bel.size; simp; omega) ?_; intro v' w3 hown3 hgr)
  refine hK.out _ _ (grown_trans (World.grownBy_alloc w.drew _ _) hgr) ?_
  clear hK K
  iterate 1 (refine hH.out _ _ _ _ (fun K hK => ?_); go_simp; refine hK _ ?_; clear hK K)
  refine hE.out _ _ ?_
  clear hH hC hN hE W
  show JS _ _
  refine hS _ _ ?_
  exact ⟨v', (HD.alloc _).app hown3 hgr, Fr.of _ rfl ⟨rfl, trivial⟩⟩

set_option maxRecDepth 100000 in
set_option maxHeartbeats 1000000 in
theorem pr43 (w0 : World) (gb : Nat) (vt vr : Value) (ts : List ByteArray) (rs : List (List ByteArray)) (h : QH w0 gb vt vr ts rs) (hg : SGood ts) (hLh : Hid ((rs.length : Int) = roundsF ts.length)) (hse : seedsE ts = 0) (hn : NoErr (rndK ts rs) rs.length) (v11 : Value) : T3 Try.prog (fun a w => (OwS w0 v11 (namesI ts (outK ts rs rs.length) ++ [geta ts (geti (leftK ts rs rs.length) 0)]) w) ∧ Fr 146 [(11, v11)] a) (sel [1, 1, 1, 1, 1, 1, 1, 1, 1, 0] poR) (fun a w => (OwS w0 v11 (playL ts rs) w) ∧ Fr 146 [(11, v11)] a) No 9 (fun a w => ∃ v4 : Value, Fr 146 [(4, v4), (5, .int .i64 (playE ts rs))] a ∧ w.ownsRow w0.heap.size 9 1 v4 (playL ts rs).length (cellsOf encSt (playL ts rs)) ∧ Below w0.heap.size w0 w) := by
  refine T3.leaf ?_
  rintro Q JS JX JT K hS hK hX hE hT hR a w ⟨hW, ⟨fr, rfl, q11, _⟩⟩
  have hL := hLh.out
  have hrn := h.r.n
  have hol := out_len (ts := ts) h.r.m rs.length
  have hnl := namesI_length ts (outK ts rs rs.length)
  have HE := Lib.hid (out_end ts rs (pe_ok hse hL hn) (lk_end hg hL hn).1)
  have HB := Lib.hid hW.bel
  have HC := Lib.hid (revS_own v11 _ _ _ w hW.own (by rw [List.length_append, List.length_singleton]; omega))
  have HG := Lib.hid hW.own.lt
  obtain ⟨p11, c11, hv11⟩ := (Row.of_owns hW.own).shape
  clear hL hn hse hol hnl hLh hW
  generalize (namesI ts (outK ts rs rs.length) ++ [geta ts (geti (leftK ts rs rs.length) 0)]) = E at *
  subst hv11
  rw [fr_poR, show fr 11 = _ from q11]
  clear q11
  conv => arg 2; whnf
  go_wp2_with fail
  refine HC.out.mono ?_
  rintro e w2 ⟨rfl, ho, g⟩
  have hR := Lib.hid (show OwS w0 (.slice p11 E.length c11) (playL ts rs) w2 from ⟨HB.out.grown g HB.out.size (fun k hk => (HG.out k hk).1), by rw [← HE.out, List.length_reverse]; exact ho⟩)
  clear ho g
  go_wp2_with fail
  refine Met.intro (hS _ _ ?_)
  exact ⟨hR.out, Fr.of _ rfl ⟨rfl, trivial⟩⟩

set_option maxRecDepth 100000 in
set_option maxHeartbeats 1000000 in
theorem pr44 (w0 : World) (gb : Nat) (vt vr : Value) (ts : List ByteArray) (rs : List (List ByteArray)) (h : QH w0 gb vt vr ts rs) (hg : SGood ts) (hLh : Hid ((rs.length : Int) = roundsF ts.length)) (hse : seedsE ts = 0) (hn : NoErr (rndK ts rs) rs.length) (v11 : Value) : T3 Try.prog (fun a w => (OwS w0 v11 (playL ts rs) w) ∧ Fr 146 [(11, v11)] a) (sel [1, 1, 1, 1, 1, 1, 1, 1, 1, 1, 0] poR) (fun a w => (OwS w0 v11 (playL ts rs) w) ∧ Fr 146 [(4, v11), (5, .int .i64 0)] a) No 9 (fun a w => ∃ v4 : Value, Fr 146 [(4, v4), (5, .int .i64 (playE ts rs))] a ∧ w.ownsRow w0.heap.size 9 1 v4 (playL ts rs).length (cellsOf encSt (playL ts rs)) ∧ Below w0.heap.size w0 w) := by
  refine T3.leaf ?_
  rintro Q JS JX JT K hS hK hX hE hT hR a w ⟨hW, ⟨fr, rfl, q11, _⟩⟩
  have HW := Lib.hid hW
  obtain ⟨p11, c11, hv11⟩ := (Row.of_owns hW.own).shape
  clear hn hse hLh hW
  generalize playL ts rs = E at *
  subst hv11
  rw [fr_poR, show fr 11 = _ from q11]
  clear q11
  conv => arg 2; whnf
  go_wp2_with fail
  refine Met.intro (hS _ _ ?_)
  exact ⟨HW.out, Fr.of _ rfl ⟨rfl, rfl, trivial⟩⟩

set_option maxRecDepth 100000 in
set_option maxHeartbeats 1000000 in
theorem pr_all (w0 : World) (gb : Nat) (vt vr : Value) (ts : List ByteArray) (rs : List (List ByteArray)) (h : QH w0 gb vt vr ts rs) : T3 Try.prog (fun a w => (IsW w0 w) ∧ Fr 146 [(1, vr), (2, .pointer (some ⟨gb, 0, none⟩))] a) (sel [1] poR) No No 9 (fun a w => ∃ v4 : Value, Fr 146 [(4, v4), (5, .int .i64 (playE ts rs))] a ∧ w.ownsRow w0.heap.size 9 1 v4 (playL ts rs).length (cellsOf encSt (playL ts rs)) ∧ Below w0.heap.size w0 w) := by
  refine T3.seq (s := (sel [1, 0] poR)) (c := (sel [1, 1] poR)) (S := fun a w => (seedsE ts = 0) ∧ (Below w0.heap.size w0 w) ∧ Fr 146 [(1, vr), (2, .pointer (some ⟨gb, 0, none⟩))] a) ?_ (T3.pure fun hE => ?_)
  · refine T3.seq (s := (sel [1, 0, 0] poR)) (c := (sel [1, 0, 1] poR)) (po1 w0 gb vt vr ts rs h) ?_
    refine T3.test (s := (sel [1, 0, 1, 0] poR)) (x := (sel [1, 0, 1, 1, 2] poR)) (y := .skip) (C := fun q => (q = (seedsE ts != 0))) (W := fun w => IsW w0 w) (by decide) (po2 w0 gb vt vr ts rs h) ?_ (T3.skip ?_)
    · refine T3.seq (s := (sel [1, 0, 1, 1, 2, 0] poR)) (c := .ret) (t3_seqx (p := seedsE ts ≠ 0) (po3 w0 gb vt vr ts rs h) ?_) (T3.ret ?_)
      · rintro a w ⟨hF, hq, hW⟩
        exact ⟨by have := hq.symm; simpa using this, hW, hF.tail⟩
      · rintro a w ⟨hp, hW, hF⟩
        have hd := pe_seeds (rs := rs) hp
        refine ⟨_, by rw [hd]; exact hF, by rw [playL_bad (by rw [hd]; exact hp)]; exact World.ownsRow_nil _ _ _ _, ?_⟩
        obtain rfl : w = w0 := hW
        exact Below.refl _ _
    · rintro a w ⟨hq, hW, hF⟩
      refine ⟨by have := hq.symm; simpa using this, ?_, hF.sub (by simp)⟩
      obtain rfl : w = w0 := hW
      exact Below.refl _ _
  have hg := s_good hE
  refine T3.seq (s := (sel [1, 1, 0] poR)) (c := (sel [1, 1, 1] poR)) (S := fun a w => ((rs.length : Int) = roundsF ts.length) ∧ (Below w0.heap.size w0 w) ∧ Fr 146 [(1, vr), (2, .pointer (some ⟨gb, 0, none⟩))] a) ?_ (T3.pure fun hL => ?_)
  · refine T3.test (s := (sel [1, 1, 0, 0] poR)) (x := (sel [1, 1, 0, 1, 2] poR)) (y := .skip) (C := fun q => (q = ((rs.length : Int) != roundsF ts.length))) (W := fun w => Below w0.heap.size w0 w) (by decide) (po4 w0 gb vt vr ts rs h hg) ?_ (T3.skip ?_)
    · refine T3.seq (s := (sel [1, 1, 0, 1, 2, 0] poR)) (c := .ret) (t3_seqx (p := (rs.length : Int) ≠ roundsF ts.length) (po5 w0 gb vt vr ts rs h hg) ?_) (T3.ret ?_)
      · rintro a w ⟨hF, hq, hW⟩
        exact ⟨by have := hq.symm; simpa using this, hW, hF.tail⟩
      · rintro a w ⟨hp, hW, hF⟩
        have hd := pe_form hE hp
        refine ⟨_, by rw [hd]; exact hF, by rw [playL_bad (by rw [hd]; decide)]; exact World.ownsRow_nil _ _ _ _, ?_⟩
        exact hW
    · rintro a w ⟨hq, hW, hF⟩
      exact ⟨by have := hq.symm; simpa using this, hW, hF⟩
  have hLh := Lib.hid hL
  refine T3.seq (s := (sel [1, 1, 1, 0] poR)) (c := (sel [1, 1, 1, 1] poR)) (po6 w0 gb vt vr ts rs h hg) ?_
  refine T3.seq (s := (sel [1, 1, 1, 1, 0] poR)) (c := (sel [1, 1, 1, 1, 1] poR)) (T3.seq (s := (sel [1, 1, 1, 1, 0, 0] poR)) (c := (sel [1, 1, 1, 1, 0, 1] poR)) (po7 w0 gb vt vr ts rs h hg) (T3.ex fun w1 => T3.ex fun vb => T3.pure fun qb => (T3.post (S := fun a w => ∃ (v7 : Value), (OwI w1 v7 (left0 ts.length) w) ∧ Fr 146 [(1, vr), (2, .pointer (some ⟨gb, 0, none⟩)), (7, v7)] a) (S' := fun a w => ∃ v7 : Value, (QR w0 ts rs v7 (.slice none 0 0) 0 w) ∧ Fr 146 [(1, vr), (2, .pointer (some ⟨gb, 0, none⟩)), (7, v7)] a) (po0loop w0 gb vt vr ts rs h hg w1 vb qb) (fun a w q => Exists.elim q fun v7 q => Exists.intro v7 (And.intro (QR.start qb q.1) q.2))))) (T3.ex fun v7 => ?_)
  refine T3.seq (s := (sel [1, 1, 1, 1, 1, 0] poR)) (c := (sel [1, 1, 1, 1, 1, 1] poR)) (pr0 w0 gb vt vr ts rs h hg hL v7) ?_
  refine T3.seq (s := (sel [1, 1, 1, 1, 1, 1, 0] poR)) (c := (sel [1, 1, 1, 1, 1, 1, 1] poR)) (pr1 w0 gb vt vr ts rs h hg hL v7) ?_
  refine T3.seq (s := (sel [1, 1, 1, 1, 1, 1, 1, 0] poR)) (c := (sel [1, 1, 1, 1, 1, 1, 1, 1] poR)) (T3.seq (s := (sel [1, 1, 1, 1, 1, 1, 1, 0, 0] poR)) (c := (sel [1, 1, 1, 1, 1, 1, 1, 0, 1] poR)) (pr2 w0 gb vt vr ts rs h hg hL v7) (prloop w0 gb vt vr ts rs h hg hLh hE)) ?_
  refine T3.ex fun v7 => T3.ex fun v11 => T3.pure fun hn => ?_
  have hd := pe_ok hE hL hn
  refine T3.seq (s := (sel [1, 1, 1, 1, 1, 1, 1, 1, 0] poR)) (c := (sel [1, 1, 1, 1, 1, 1, 1, 1, 1] poR)) (pr42 w0 gb vt vr ts rs h hg hLh hE hn v7 v11) ?_
  refine T3.ex fun v11 => ?_
  refine T3.seq (s := (sel [1, 1, 1, 1, 1, 1, 1, 1, 1, 0] poR)) (c := (sel [1, 1, 1, 1, 1, 1, 1, 1, 1, 1] poR)) (pr43 w0 gb vt vr ts rs h hg hLh hE hn v11) ?_
  refine T3.seq (s := (sel [1, 1, 1, 1, 1, 1, 1, 1, 1, 1, 0] poR)) (c := .ret) (pr44 w0 gb vt vr ts rs h hg hLh hE hn v11) (T3.ret ?_)
  rintro a w ⟨hW, hF⟩
  exact ⟨v11, by rw [hd]; exact hF, hW.own, hW.bel⟩

end Go.Proofs.Ytkdimgghljklmaa
/-
  Finals: a bracket that is played, the reference's PlayOf as a contract. Conditions: strings are no longer than Go's; at most 1000 seeds, rounds and names.
-/
set_option linter.unusedVariables false
namespace Go.Proofs.Ytkdimgghljklmaa
open Go.RowKit Go.Bw
set_option maxRecDepth 100000 in
set_option maxHeartbeats 1000000 in
theorem pp0 (w0 : World) (vt vr : Value) (ts : List ByteArray) (rs : List (List ByteArray)) (h : PlH w0 vt vr ts rs) : T3 Try.prog (fun a w => (IsW w0 w) ∧ Fr 146 [(0, vt), (1, vr)] a) (sel [0] poR) (fun a w => (IsW (w0.alloc (.cells #[vt] 26)) w) ∧ Fr 146 [(1, vr), (2, .pointer (some ⟨w0.heap.size, 0, none⟩))] a) No 9 (fun a w => ∃ v4 : Value, Fr 146 [(4, v4), (5, .int .i64 (playE ts rs))] a ∧ w.ownsRow (w0.alloc (.cells #[vt] 26)).heap.size 9 1 v4 (playL ts rs).length (cellsOf encSt (playL ts rs)) ∧ Below (w0.alloc (.cells #[vt] 26)).heap.size (w0.alloc (.cells #[vt] 26)) w) := by
  refine T3.leaf ?_
  rintro Q JS JX JT K hS hK hX hE hT hR a w ⟨hW, ⟨fr, rfl, q0, q1, _⟩⟩
  obtain rfl : w = w0 := hW
  obtain ⟨p1, c1, hv1⟩ := h.s.t.shape
  obtain ⟨p2, c2, hv2⟩ := h.r.shape
  subst hv2
  subst hv1
  rw [fr_poR, show fr 0 = _ from q0, show fr 1 = _ from q1]
  clear q0 q1
  conv => arg 2; whnf
  go_wp2_with fail
  refine Met.intro (hS _ _ ?_)
  exact ⟨rfl, Fr.of _ rfl ⟨rfl, rfl, trivial⟩⟩

set_option maxRecDepth 100000 in
set_option maxHeartbeats 1000000 in
theorem pp_all (w0 : World) (vt vr : Value) (ts : List ByteArray) (rs : List (List ByteArray)) (h : PlH w0 vt vr ts rs) : T3 Try.prog (fun a w => (IsW w0 w) ∧ Fr 146 [(0, vt), (1, vr)] a) poR No No 9 (fun a w => ∃ v4 : Value, Fr 146 [(4, v4), (5, .int .i64 (playE ts rs))] a ∧ w.ownsRow (w0.alloc (.cells #[vt] 26)).heap.size 9 1 v4 (playL ts rs).length (cellsOf encSt (playL ts rs)) ∧ Below (w0.alloc (.cells #[vt] 26)).heap.size (w0.alloc (.cells #[vt] 26)) w) :=
  T3.seq (s := (sel [0] poR)) (c := (sel [1] poR)) (pp0 w0 vt vr ts rs h) (pr_all (w0.alloc (.cells #[vt] 26)) w0.heap.size vt vr ts rs (QH.start h _))
set_option maxRecDepth 100000 in
set_option maxHeartbeats 1000000 in
theorem playof_ref (w0 : World) (vt vr : Value) (ts : List ByteArray) (rs : List (List ByteArray)) (h : PlH w0 vt vr ts rs) : Calls Try.prog 30 #[vt, vr] w0 fun e w' => ∃ v4 : Value, e = .returned (.tuple #[v4, .int .i64 (playE ts rs)]) ∧ w'.ownsRow w0.heap.size 9 1 v4 (playL ts rs).length (cellsOf encSt (playL ts rs)) ∧ Below w0.heap.size w0 w' := by
  have hall := pp_all w0 vt vr ts rs h
  go_enter Try.func30, Try.ntmps30
  refine T3.done (s := poR) hall ⟨rfl, Fr.of _ rfl ⟨rfl, rfl, trivial⟩⟩ ?_
  rintro a w ⟨v4, ⟨fr, rfl, q4, q5, _⟩, ho, hb⟩
  have hs : w0.heap.size ≤ (w0.alloc (.cells #[vt] 26)).heap.size := by simp
  have ho := owns_mono ho hs
  have hb := ((Below.refl w0.heap.size w0).alloc (Nat.le_refl _) (.cells #[vt] 26)).trans (hb.mono hs)
  obtain ⟨p9, c9, hv9⟩ := (Row.of_owns ho).shape
  rw [hv9] at ho
  rw [fr_poR, show fr 4 = _ from q4, hv9, show fr 5 = _ from q5]
  clear hs
  go_ret2
  exact ⟨_, rfl, ho, hb⟩
end Go.Proofs.Ytkdimgghljklmaa
/-
  Fractions: the program's and the reference's reckoning. Conditions: the bounds on numbers that each theorem names.
-/
set_option linter.unusedVariables false
namespace Go.Bw
open Go.RowKit
theorem gcd_tmod (a b : Int) : Int.gcd b (a.tmod b) = Int.gcd a b := by
  unfold Int.gcd
  rw [Int.natAbs_tmod, Nat.gcd_comm, ← Nat.gcd_rec, Nat.gcd_comm]
theorem gcd_emod (a b : Int) (h : 0 ≤ a) : Int.gcd b (a % b) = Int.gcd a b := by
  rw [← Int.tmod_eq_emod_of_nonneg h, gcd_tmod]
theorem gcd_zero {a : Int} : Int.gcd a 0 = a.natAbs := by simp [Int.gcd]
theorem gcd_neg' (a b : Int) : Int.gcd (-a) b = Int.gcd a b := by simp [Int.gcd]
theorem gcd_abs (a b : Int) : Int.gcd (max a (-a)) b = Int.gcd a b := by
  by_cases h : 0 ≤ a
  · rw [Int.max_eq_left (by omega)]
  · rw [Int.max_eq_right (by omega), gcd_neg']
theorem wrap_neg_u64 {x : Int} (h1 : -9223372036854775808 ≤ x) (h2 : x < 0) : IntKind.u64.wrap (-IntKind.u64.wrap x) = -x := by
  have e : ∀ y : Int, IntKind.u64.wrap y = y % 18446744073709551616 := fun y => rfl
  rw [e, e]
  omega
theorem frozen_new0 (w : World) (cs : Array Value) (e : TypeId) (i : Nat) : (w.alloc (.cells cs e)).frozen? ⟨w.heap.size, i, none⟩ = false := by
  unfold World.frozen?
  rw [heap_alloc_new]
  simp
/-- A block of two cells that was laid, seen behind a call that left it alone. -/
theorem fresh2 (w w1 : World) (e : TypeId) (x0 y0 : Value) (hb : Below (w.alloc (.cells #[x0, y0] e)).heap.size (w.alloc (.cells #[x0, y0] e)) w1) :
    w1.cell? ⟨w.heap.size, 0, none⟩ = some x0 ∧ w1.cell? ⟨w.heap.size, 1, none⟩ = some y0 ∧ w1.frozen? ⟨w.heap.size, 0, none⟩ = false ∧ w1.frozen? ⟨w.heap.size, 1, none⟩ = false ∧ w.heap.size < w1.heap.size ∧
    (∀ x y, ((w1.setCell ⟨w.heap.size, 0, none⟩ x).setCell ⟨w.heap.size, 1, none⟩ y).cell? ⟨w.heap.size, 0, none⟩ = some x) ∧
    (∀ x y, ((w1.setCell ⟨w.heap.size, 0, none⟩ x).setCell ⟨w.heap.size, 1, none⟩ y).cell? ⟨w.heap.size, 1, none⟩ = some y) ∧
    (∀ x y, Below w.heap.size w ((w1.setCell ⟨w.heap.size, 0, none⟩ x).setCell ⟨w.heap.size, 1, none⟩ y)) := by
  have hlt : w.heap.size < (w.alloc (.cells #[x0, y0] e)).heap.size := by simp
  have k0 := (hb.cell (p := ⟨w.heap.size, 0, none⟩) hlt).trans (cells_new w #[x0, y0] e 0 _ rfl)
  have k1 := (hb.cell (p := ⟨w.heap.size, 1, none⟩) hlt).trans (cells_new w #[x0, y0] e 1 _ rfl)
  have hw := ((Below.refl w.heap.size w).alloc (Nat.le_refl _) (.cells #[x0, y0] e)).trans (hb.mono (Nat.le_of_lt hlt))
  refine ⟨k0, k1, (hb.frozen (p := ⟨w.heap.size, 0, none⟩) hlt).trans (frozen_new0 _ _ _ _), (hb.frozen (p := ⟨w.heap.size, 1, none⟩) hlt).trans (frozen_new0 _ _ _ _), Nat.lt_of_lt_of_le hlt hb.size, fun x y => ?_, fun x y => ?_, fun x y => (hw.setCell (Nat.le_refl _) _).setCell (Nat.le_refl _) _⟩
  · rw [World.cell?_setCell_other _ _ _ _ (by simp)]
    exact World.cell?_setCell_same' _ _ _ (by rw [k0]; rfl)
  · exact World.cell?_setCell_same' _ _ _ (by rw [World.cell?_setCell_other _ _ _ _ (by simp), k1]; rfl)
theorem mul_small (x q : Int) (h1 : -1000000000000000 ≤ x) (h2 : x ≤ 1000000000000000) (h3 : 0 ≤ q) (h4 : q ≤ 100) : -100000000000000000 ≤ x * q ∧ x * q ≤ 100000000000000000 := by
  have a := Int.mul_le_mul_of_nonneg_right h1 h3
  have b := Int.mul_le_mul_of_nonneg_right h2 h3
  omega
end Go.Bw
namespace Go.Proofs.Ytkdimgghljklmaa
open Go.RowKit Go.Bw

set_option maxRecDepth 100000 in
set_option maxHeartbeats 1000000 in
theorem gcd_any (a b : Int) (w : World) (h1 : 0 ≤ a) (h2 : a ≤ 9223372036854775807) (h3 : 0 ≤ b) (h4 : b ≤ 9223372036854775807) :
    Calls Try.prog 74 #[.int .i64 a, .int .i64 b] w fun e w' => e = .returned (.int .i64 (Int.gcd a b)) ∧ Below w.heap.size w w' := by
  have hw0 := Below.refl w.heap.size w
  obtain ⟨G, hG⟩ : ∃ G, G = Int.gcd a b := ⟨_, rfl⟩
  rw [← hG]
  have HG := Lib.hid hG.symm
  clear hG
  go_enter Try.func74, Try.ntmps74
  go_wp2_with fail
  go_loopw [0, 1] (fun s t wr => ∃ x y : Int, 0 ≤ x ∧ x ≤ 9223372036854775807 ∧ 0 ≤ y ∧ y ≤ 9223372036854775807 ∧ Hid (Int.gcd x y = G) ∧ s = .int .i64 x ∧ t = .int .i64 y ∧ Below w.heap.size w wr) (fun _ t _ => (intOf t).toNat)
  case atStart => exact ⟨a, b, h1, h2, h3, h4, HG, rfl, rfl, hw0⟩
  case round =>
    obtain ⟨x, y, hx0, hx1, hy0, hy1, hg, rfl, rfl, hb⟩ := hrel
    by_cases hy : y = 0
    · have hx : (G : Int) = x := by rw [← hg.out, hy, gcd_zero]; omega
      subst hy
      have Hx := Lib.hid hx
      clear hx
      go_wp2_with fail
      go_ret
      exact ⟨ret_int Hx.out.symm, hb⟩
    · have hyb : (y == 0) = false := by simp [hy]
      have hst : Hid (Int.gcd y (x % y) = G) := Lib.hid (by rw [gcd_emod _ _ hx0]; exact hg.out)
      have hm0 : 0 ≤ x % y := Int.emod_nonneg _ hy
      have hm1 : x % y < y := Int.emod_lt_of_pos _ (by omega)
      clear hg
      go_wp2_with fail
      go_quiet (fail)
      go_wp2_with fail
      go_roundw
      case rel => exact ⟨y, x % y, by omega, by omega, by omega, by omega, hst, rfl, rfl, below_drewN hb _⟩
      case measure => simp [intOf]; omega

set_option maxRecDepth 100000 in
set_option maxHeartbeats 1000000 in
theorem lowest_any (num den : Int) (w : World) (h1 : -9223372036854775808 ≤ num) (h2 : num ≤ 9223372036854775807) (h3 : 1 ≤ den) (h4 : den ≤ 9223372036854775807) :
    Calls Try.prog 87 #[.agg #[.int .i64 num, .int .i64 den]] w fun e w' => e = .returned (.bool (decide (Int.gcd num den = 1))) ∧ Below w.heap.size w w' := by
  have hw0 := Below.refl w.heap.size w
  obtain ⟨G, hG⟩ : ∃ G, G = Int.gcd num den := ⟨_, rfl⟩
  rw [← hG]
  have HG := Lib.hid hG.symm
  clear hG
  have HA : Hid (Int.gcd num.natAbs den = G) := Lib.hid (by rw [← HG.out]; simp [Int.gcd])
  by_cases hn : num < 0
  · have HW := Lib.hid (wrap_neg_u64 h1 hn)
    have hG2 : Hid (Int.gcd (-num) den = G) := Lib.hid (by rw [gcd_neg']; exact HG.out)
    go_enter Try.func87, Try.ntmps87
    go_wp2_with fail
    go_quiet (fail)
    go_wp2_with fail
    go_loopw [3, 4] (fun s t wr => ∃ x y : Int, 0 ≤ x ∧ x ≤ 9223372036854775808 ∧ 0 ≤ y ∧ y ≤ 9223372036854775807 ∧ Hid (Int.gcd x y = G) ∧ s = .int .u64 x ∧ t = .int .u64 y ∧ Below w.heap.size w wr) (fun _ t _ => (intOf t).toNat)
    case atStart => exact ⟨-num, den, by omega, by omega, by omega, h4, hG2, by rw [HW.out], rfl, below_drewN (hw0.alloc (Nat.le_refl _) _) _⟩
    case round =>
      obtain ⟨x, y, hx0, hx1, hy0, hy1, hg, rfl, rfl, hb⟩ := hrel
      by_cases hy : y = 0
      · have hx : (G : Int) = x := by rw [← hg.out, hy, gcd_zero]; omega
        subst hy
        have Hx := Lib.hid hx
        clear hx
        go_wp2_with fail
        go_ret
        exact ⟨ret_bool (by rw [← Hx.out]; by_cases hG : G = 1 <;> simp [hG] <;> omega), hb⟩
      · have hyb : (y == 0) = false := by simp [hy]
        have hst : Hid (Int.gcd y (x % y) = G) := Lib.hid (by rw [gcd_emod _ _ hx0]; exact hg.out)
        have hm0 : 0 ≤ x % y := Int.emod_nonneg _ hy
        have hm1 : x % y < y := Int.emod_lt_of_pos _ (by omega)
        clear hg
        go_wp2_with fail
        go_quiet (fail)
        go_wp2_with fail
        go_roundw
        case rel => exact ⟨y, x % y, by omega, by omega, by omega, by omega, hst, rfl, rfl, below_drewN hb _⟩
        case measure => simp [intOf]; omega
  · go_enter Try.func87, Try.ntmps87
    go_wp2_with fail
    go_quiet (fail)
    go_wp2_with fail
    go_loopw [3, 4] (fun s t wr => ∃ x y : Int, 0 ≤ x ∧ x ≤ 9223372036854775808 ∧ 0 ≤ y ∧ y ≤ 9223372036854775807 ∧ Hid (Int.gcd x y = G) ∧ s = .int .u64 x ∧ t = .int .u64 y ∧ Below w.heap.size w wr) (fun _ t _ => (intOf t).toNat)
    case atStart => exact ⟨num, den, by omega, by omega, by omega, h4, HG, rfl, rfl, below_drewN (hw0.alloc (Nat.le_refl _) _) _⟩
    case round =>
      obtain ⟨x, y, hx0, hx1, hy0, hy1, hg, rfl, rfl, hb⟩ := hrel
      by_cases hy : y = 0
      · have hx : (G : Int) = x := by rw [← hg.out, hy, gcd_zero]; omega
        subst hy
        have Hx := Lib.hid hx
        clear hx
        go_wp2_with fail
        go_ret
        exact ⟨ret_bool (by rw [← Hx.out]; by_cases hG : G = 1 <;> simp [hG] <;> omega), hb⟩
      · have hyb : (y == 0) = false := by simp [hy]
        have hst : Hid (Int.gcd y (x % y) = G) := Lib.hid (by rw [gcd_emod _ _ hx0]; exact hg.out)
        have hm0 : 0 ≤ x % y := Int.emod_nonneg _ hy
        have hm1 : x % y < y := Int.emod_lt_of_pos _ (by omega)
        clear hg
        go_wp2_with fail
        go_quiet (fail)
        go_wp2_with fail
        go_roundw
        case rel => exact ⟨y, x % y, by omega, by omega, by omega, by omega, hst, rfl, rfl, below_drewN hb _⟩
        case measure => simp [intOf]; omega

set_option maxRecDepth 100000 in
set_option maxHeartbeats 1000000 in
/-- divisor: of a number and one above 0. -/
theorem divisor_any (a b : Int) (w : World) (h1 : -9223372036854775808 ≤ a) (h2 : a ≤ 9223372036854775807) (h3 : 1 ≤ b) (h4 : b ≤ 9223372036854775807) :
    Calls Try.prog 78 #[.int .i64 a, .int .i64 b] w fun e w' => e = .returned (.int .i64 (Int.gcd a b)) ∧ Below w.heap.size w w' := by
  have hw0 := Below.refl w.heap.size w
  obtain ⟨G, hG⟩ : ∃ G, G = Int.gcd a b := ⟨_, rfl⟩
  rw [← hG]
  have HG := Lib.hid hG.symm
  clear hG
  go_enter Try.func78, Try.ntmps78
  go_wp2_with fail
  go_loopw [0, 1] (fun s t wr => ∃ x y : Int, -9223372036854775808 ≤ x ∧ x ≤ 9223372036854775807 ∧ -9223372036854775807 ≤ y ∧ y ≤ 9223372036854775807 ∧ (y = 0 → -9223372036854775807 ≤ x) ∧ Hid (Int.gcd x y = G) ∧ s = .int .i64 x ∧ t = .int .i64 y ∧ Below w.heap.size w wr) (fun _ t _ => (intOf t).natAbs)
  case atStart => exact ⟨a, b, h1, h2, by omega, h4, by omega, HG, rfl, rfl, hw0⟩
  case round =>
    obtain ⟨x, y, hx0, hx1, hy0, hy1, hxy, hg, rfl, rfl, hb⟩ := hrel
    by_cases hy : y = 0
    · have hx : (G : Int) = max x (-x) := by rw [← hg.out, hy, gcd_zero]; omega
      have hx2 := hxy hy
      subst hy
      have Hx := Lib.hid hx
      clear hx hxy
      go_wp2_with fail
      go_ret
      exact ⟨ret_int Hx.out.symm, hb⟩
    · have hyb : (y == 0) = false := by simp [hy]
      have hst : Hid (Int.gcd y (x.tmod y) = G) := Lib.hid (by rw [gcd_tmod]; exact hg.out)
      have hna : (x.tmod y).natAbs < y.natAbs := by rw [Int.natAbs_tmod]; exact Nat.mod_lt _ (by omega)
      have hm0 : -9223372036854775807 ≤ x.tmod y := by omega
      have hm1 : x.tmod y ≤ 9223372036854775807 := by omega
      clear hg hxy
      go_wp2_with fail
      go_quiet (fail)
      go_wp2_with fail
      go_roundw
      case rel => exact ⟨y, x.tmod y, by omega, by omega, by omega, by omega, by omega, hst, rfl, rfl, below_drewN hb _⟩
      case measure => exact hna

/-- So many hundredths, in lowest terms. -/
def ofHn (n : Int) : Int := n / (Int.gcd n 100 : Int)
def ofHd (n : Int) : Int := 100 / (Int.gcd n 100 : Int)

theorem gcd100 (n : Int) : 1 ≤ (Int.gcd n 100 : Int) ∧ (Int.gcd n 100 : Int) ≤ 100 := by
  have h0 : 0 < Int.gcd n 100 := Int.gcd_pos_of_ne_zero_right _ (by decide)
  have h1 : Int.gcd n 100 ∣ 100 := by have := Int.gcd_dvd_right n 100; exact_mod_cast this
  have := Nat.le_of_dvd (by decide) h1
  omega

theorem ofH_quo (n : Int) : n.tdiv (Int.gcd n 100 : Int) = ofHn n := by
  unfold ofHn
  rw [Int.tdiv_eq_ediv_of_dvd (Int.gcd_dvd_left n 100)]

theorem ofH_bounds (n : Int) (h : -1000000000000000 ≤ n) (h' : n ≤ 1000000000000000) : -1000000000000000 ≤ ofHn n ∧ ofHn n ≤ 1000000000000000 ∧ 1 ≤ ofHd n ∧ ofHd n ≤ 100 := by
  have hg := gcd100 n
  have hn : ofHn n * (Int.gcd n 100 : Int) = n := by unfold ofHn; exact Int.ediv_mul_cancel (Int.gcd_dvd_left n 100)
  have hm : (ofHn n).natAbs ≤ n.natAbs := by
    rw [← congrArg Int.natAbs hn, Int.natAbs_mul]
    exact Nat.le_mul_of_pos_right _ (by omega)
  refine ⟨by omega, by omega, ?_, ?_⟩
  · unfold ofHd
    exact Int.le_ediv_of_mul_le (by omega) (by omega)
  · unfold ofHd
    exact Int.ediv_le_self _ (by decide)

/-- Made into hundredths again. -/
theorem ofH_back (n : Int) : ofHn n * (100 / ofHd n) = n := by
  have hg := gcd100 n
  have hd : ofHd n * (Int.gcd n 100 : Int) = 100 := by unfold ofHd; exact Int.ediv_mul_cancel (Int.gcd_dvd_right n 100)
  have hn : ofHn n * (Int.gcd n 100 : Int) = n := by unfold ofHn; exact Int.ediv_mul_cancel (Int.gcd_dvd_left n 100)
  have hne : ofHd n ≠ 0 := by intro e; rw [e] at hd; simp at hd
  rw [← hd, Int.mul_ediv_cancel_left _ hne, hn]

set_option maxRecDepth 100000 in
set_option maxHeartbeats 1000000 in
theorem fraction_prog (n : Int) (w : World) (h1 : -1000000000000000 ≤ n) (h2 : n ≤ 1000000000000000) :
    Calls Try.prog 43 #[.int .i64 n, .int .i64 100] w fun e w' => e = .returned (.agg #[.int .i64 (ofHn n), .int .i64 (ofHd n)]) ∧ Below w.heap.size w w' := by
  have hq := Lib.hid (ofH_quo n)
  have hg := gcd100 n
  have ha := Lib.hid (gcd_abs n 100)
  have hd := Lib.hid (show 100 / (Int.gcd n 100 : Int) = ofHd n from rfl)
  have hw0 := Below.refl w.heap.size w
  go_enter Try.func43, Try.ntmps43
  go_wp2_with fail
  have k0 := cells_new w #[.int .i64 0, .int .i64 0] 37 0 _ rfl
  have k1 := cells_new w #[.int .i64 0, .int .i64 0] 37 1 _ rfl
  have kf := frozen_new0 w #[.int .i64 0, .int .i64 0] 37 0
  have kf1 := frozen_new0 w #[.int .i64 0, .int .i64 0] 37 1
  have hlt : w.heap.size < (w.alloc (.cells #[.int .i64 0, .int .i64 0] 37)).heap.size := by simp
  replace hw0 := hw0.alloc (Nat.le_refl _) (.cells #[.int .i64 0, .int .i64 0] 37)
  generalize w.alloc (Obj.cells #[Value.int IntKind.i64 0, Value.int IntKind.i64 0] 37) = W at *
  refine (gcd_any _ _ _ (by omega) (by omega) (by omega) (by omega)).mono ?_
  rw [ha.out]
  rintro e w1 ⟨rfl, hb⟩
  generalize (Int.gcd n 100 : Int) = g at *
  have hg0 : (g == 0) = false := by simp; omega
  replace k0 := (hb.cell (p := ⟨w.heap.size, 0, none⟩) hlt).trans k0
  replace k1 := (hb.cell (p := ⟨w.heap.size, 1, none⟩) hlt).trans k1
  replace kf := (hb.frozen (p := ⟨w.heap.size, 0, none⟩) hlt).trans kf
  replace kf1 := (hb.frozen (p := ⟨w.heap.size, 1, none⟩) hlt).trans kf1
  replace hw0 := hw0.trans (hb.mono (Nat.le_of_lt hlt))
  have hlt1 : w.heap.size < w1.heap.size := Nat.lt_of_lt_of_le hlt hb.size
  clear hb hlt
  generalize hB : w.heap.size = B at *
  go_wp2_with fail
  have hbn := ofH_bounds n h1 h2
  have hne : ¬ g = 0 := by omega
  have e1 : IntKind.i64.wrap (n.tdiv g) = ofHn n := by rw [hq.out]; exact IntWalk.i64_in _ (by omega)
  have e2 : IntKind.i64.wrap (Int.tdiv 100 g) = ofHd n := by rw [Int.tdiv_eq_ediv_of_nonneg (by decide), hd.out]; exact IntWalk.i64_in _ (by omega)
  have hA := @cell?_allocs
  refine wp_region_calm [0, 1, 2, 3, 4, 5, 6] [7] (by kernel_rfl) (by kernel_rfl) (by intro c a d v w h; cases d <;> exact h) ?_
  simp only [pickOps, List.filterMap_cons, List.filterMap_nil, List.getElem?_cons_succ, List.getElem?_cons_zero]
  repeat (refine wpCalm_step (fun K hK => ?_); go_simp; refine hK _ ?_; clear hK K)
  refine wpCalm_nil ?_
  clear hA hne e1 e2
  go_wp2_with fail
  have r1 := World.cell?_setCell_same' (w1.setCell ⟨B, 0, none⟩ (.int .i64 (ofHn n))) ⟨B, 1, none⟩ (.int .i64 (ofHd n)) (by rw [World.cell?_setCell_other _ _ _ _ (by simp), k1]; rfl)
  have r0 : ((w1.setCell ⟨B, 0, none⟩ (.int .i64 (ofHn n))).setCell ⟨B, 1, none⟩ (.int .i64 (ofHd n))).cell? ⟨B, 0, none⟩ = some (.int .i64 (ofHn n)) := by
    rw [World.cell?_setCell_other _ _ _ _ (by simp)]
    exact World.cell?_setCell_same' _ _ _ (by rw [k0]; rfl)
  refine bodyPost_ret (v := .agg #[.int .i64 (ofHn n), .int .i64 (ofHd n)]) (by simp [results, Try.results43, go_sem, r0, r1]) rfl ⟨rfl, ?_⟩
  rw [hB]
  exact below_drewN ((hw0.setCell (Nat.le_refl _) _).setCell (Nat.le_refl _) _) 1

set_option maxRecDepth 100000 in
set_option maxHeartbeats 1000000 in
theorem lowestF_ref (n : Int) (w : World) (h1 : -1000000000000000 ≤ n) (h2 : n ≤ 1000000000000000) :
    Calls Try.prog 52 #[.int .i64 n, .int .i64 100] w fun e w' => e = .returned (.agg #[.int .i64 (ofHn n), .int .i64 (ofHd n)]) ∧ Below w.heap.size w w' := by
  have hq := Lib.hid (ofH_quo n)
  have hg := gcd100 n
  have hd := Lib.hid (show 100 / (Int.gcd n 100 : Int) = ofHd n from rfl)
  go_enter Try.func52, Try.ntmps52
  go_wp2_with fail
  refine (divisor_any _ _ _ (by omega) (by omega) (by omega) (by omega)).mono ?_
  rintro e w1 ⟨rfl, hb⟩
  generalize (Int.gcd n 100 : Int) = g at *
  obtain ⟨k0, k1, kf, kf1, hlt, r0, r1, hB⟩ := fresh2 _ _ _ _ _ hb
  have r0 := r0 (.int .i64 (ofHn n)) (.int .i64 (ofHd n))
  have r1 := r1 (.int .i64 (ofHn n)) (.int .i64 (ofHd n))
  have hB := hB (.int .i64 (ofHn n)) (.int .i64 (ofHd n))
  clear hb
  go_wp2_with fail
  have hbn := ofH_bounds n h1 h2
  have hne : ¬ g = 0 := by omega
  have e1 : IntKind.i64.wrap (n.tdiv g) = ofHn n := by rw [hq.out]; exact IntWalk.i64_in _ (by omega)
  have e2 : IntKind.i64.wrap (Int.tdiv 100 g) = ofHd n := by rw [Int.tdiv_eq_ediv_of_nonneg (by decide), hd.out]; exact IntWalk.i64_in _ (by omega)
  have hA := @cell?_allocs
  refine wp_region_calm [0, 1, 2, 3, 4, 5, 6] [7] (by kernel_rfl) (by kernel_rfl) (by intro c a d v w h; cases d <;> exact h) ?_
  simp only [pickOps, List.filterMap_cons, List.filterMap_nil, List.getElem?_cons_succ, List.getElem?_cons_zero]
  repeat (refine wpCalm_step (fun K hK => ?_); go_simp; refine hK _ ?_; clear hK K)
  refine wpCalm_nil ?_
  clear hA hne e1 e2
  go_wp2_with fail
  exact bodyPost_ret (v := .agg #[.int .i64 (ofHn n), .int .i64 (ofHd n)]) (by simp [results, Try.results52, go_sem, r0, r1]) rfl ⟨rfl, below_drewN hB 1⟩

/-- What a fraction is worth in hundredths. -/
def hund (num den : Int) : Int := num * (100 / den)

set_option maxRecDepth 100000 in
set_option maxHeartbeats 1000000 in
theorem hundredths_prog (num den : Int) (w : World) (h1 : -1000000000000000 ≤ num) (h2 : num ≤ 1000000000000000) (h3 : 1 ≤ den) (h4 : den ≤ 9223372036854775807) :
    Calls Try.prog 62 #[.agg #[.int .i64 num, .int .i64 den]] w fun e w' => e = .returned (.int .i64 (hund num den)) ∧ Below w.heap.size w w' := by
  have hw0 := Below.refl w.heap.size w
  have hq0 : 0 ≤ 100 / den := Int.ediv_nonneg (by decide) (by omega)
  have hq1 : 100 / den ≤ 100 := Int.ediv_le_self _ (by decide)
  have hdz : (den == 0) = false := by simp; omega
  have hb := mul_small num (100 / den) h1 h2 hq0 hq1
  go_enter Try.func62, Try.ntmps62
  go_wp2_with fail
  go_quiet (fail)
  go_wp2_with fail
  go_ret
  exact ⟨rfl, below_drewN (hw0.alloc (Nat.le_refl _) _) _⟩


set_option maxRecDepth 100000 in
set_option maxHeartbeats 1000000 in
theorem hundredths_ref (num den : Int) (w : World) (h1 : -1000000000000000 ≤ num) (h2 : num ≤ 1000000000000000) (h3 : 1 ≤ den) (h4 : den ≤ 9223372036854775807) :
    Calls Try.prog 70 #[.agg #[.int .i64 num, .int .i64 den]] w fun e w' => e = .returned (.int .i64 (hund num den)) ∧ Below w.heap.size w w' := by
  have hw0 := Below.refl w.heap.size w
  have hq0 : 0 ≤ 100 / den := Int.ediv_nonneg (by decide) (by omega)
  have hq1 : 100 / den ≤ 100 := Int.ediv_le_self _ (by decide)
  have hdz : (den == 0) = false := by simp; omega
  have hb := mul_small num (100 / den) h1 h2 hq0 hq1
  go_enter Try.func70, Try.ntmps70
  go_wp2_with fail
  go_quiet (fail)
  go_wp2_with fail
  go_ret
  exact ⟨rfl, below_drewN (hw0.alloc (Nat.le_refl _) _) _⟩


/-- What is wrong with points from -most to most. -/
def amountE (num den most : Int) : Int := if den < 1 ∨ Int.gcd num den ≠ 1 then 3 else if 100 % den ≠ 0 ∨ num < -most * den ∨ most * den < num then 1 else 0

theorem den_le {den : Int} (h : 1 ≤ den) (h0 : 100 % den = 0) : den ≤ 100 := Int.le_of_dvd (by decide) (Int.dvd_of_emod_eq_zero h0)

set_option maxRecDepth 100000 in
set_option maxHeartbeats 1000000 in
theorem amount_prog (num den most : Int) (w : World) (h1 : -9223372036854775808 ≤ num) (h2 : num ≤ 9223372036854775807) (h3 : -9223372036854775808 ≤ den) (h4 : den ≤ 9223372036854775807) (h5 : 0 ≤ most) (h6 : most ≤ 1000000) :
    Calls Try.prog 81 #[.agg #[.int .i64 num, .int .i64 den], .int .i64 most] w fun e w' => e = .returned (.int .i64 (amountE num den most)) ∧ Below w.heap.size w w' := by
  have hw0 := Below.refl w.heap.size w
  by_cases hd : den < 1
  · have he := Lib.hid (show amountE num den most = 3 by simp [amountE, hd])
    go_enter Try.func81, Try.ntmps81
    go_wp2_with fail
    go_ret
    exact ⟨ret_int he.out.symm, hw0.alloc (Nat.le_refl _) _⟩
  · have c0 := cells_new w #[.int .i64 num, .int .i64 den] 37 0 _ rfl
    have c1 := cells_new w #[.int .i64 num, .int .i64 den] 37 1 _ rfl
    have hlt : w.heap.size < (w.alloc (.cells #[.int .i64 num, .int .i64 den] 37)).heap.size := by simp
    replace hw0 := hw0.alloc (Nat.le_refl _) (.cells #[.int .i64 num, .int .i64 den] 37)
    have hl := lowest_any num den (w.alloc (.cells #[.int .i64 num, .int .i64 den] 37)) h1 h2 (by omega) h4
    by_cases hg : Int.gcd num den = 1
    · have hgb : decide (Int.gcd num den = 1) = true := by simp [hg]
      rw [hgb] at hl
      by_cases hm : 100 % den = 0
      · have hle := den_le (by omega) hm
        have hmb : (100 % den != 0) = false := by simp [hm]
        have hb1 := mul_small most den (by omega) (by omega) (by omega) hle
        have hb2 := mul_small (-most) den (by omega) (by omega) (by omega) hle
        have he := Lib.hid (show amountE num den most = if outB num (-most * den) (most * den) = true then 1 else 0 by simp [amountE, hd, hg, hm, outB])
        clear hgb hg hm
        cases ho : outB num (-most * den) (most * den)
        all_goals
          have ho := Lib.hid ho
          go_enter Try.func81, Try.ntmps81
          go_wp2_with fail
          generalize w.alloc (.cells #[.int .i64 num, .int .i64 den] 37) = W at *
          refine hl.mono ?_
          rintro e w1 ⟨rfl, hb⟩
          replace c0 := (hb.cell (p := ⟨w.heap.size, 0, none⟩) hlt).trans c0
          replace c1 := (hb.cell (p := ⟨w.heap.size, 1, none⟩) hlt).trans c1
          replace hw0 := hw0.trans (hb.mono (Nat.le_of_lt hlt))
          clear hb hlt hl
          go_wp2_with (go_at_call 42; refine (out_is _ _ _ _ ho.out _).mono ?_; rintro e w2 ⟨rfl, rfl⟩)
          go_ret
          exact ⟨ret_int (by rw [he.out, ho.out]; rfl), hw0⟩
      · have hmb : (100 % den != 0) = true := by simp [hm]
        have hdz : (den == 0) = false := by simp; omega
        have he := Lib.hid (show amountE num den most = 1 by simp [amountE, hd, hg, hm])
        clear hgb hg hm
        go_enter Try.func81, Try.ntmps81
        go_wp2_with fail
        generalize w.alloc (.cells #[.int .i64 num, .int .i64 den] 37) = W at *
        refine hl.mono ?_
        rintro e w1 ⟨rfl, hb⟩
        replace c0 := (hb.cell (p := ⟨w.heap.size, 0, none⟩) hlt).trans c0
        replace c1 := (hb.cell (p := ⟨w.heap.size, 1, none⟩) hlt).trans c1
        replace hw0 := hw0.trans (hb.mono (Nat.le_of_lt hlt))
        clear hb hlt hl
        go_wp2_with fail
        go_ret
        exact ⟨ret_int he.out.symm, hw0⟩
    · have hgb : decide (Int.gcd num den = 1) = false := by simp [hg]
      rw [hgb] at hl
      have he := Lib.hid (show amountE num den most = 3 by simp [amountE, hg])
      clear hgb hg
      go_enter Try.func81, Try.ntmps81
      go_wp2_with fail
      generalize w.alloc (.cells #[.int .i64 num, .int .i64 den] 37) = W at *
      refine hl.mono ?_
      rintro e w1 ⟨rfl, hb⟩
      replace hw0 := hw0.trans (hb.mono (Nat.le_of_lt hlt))
      clear hb hlt hl
      go_wp2_with fail
      go_ret
      exact ⟨ret_int he.out.symm, hw0⟩

set_option maxRecDepth 100000 in
set_option maxHeartbeats 1000000 in
theorem pointsFault_ref (num den most : Int) (w : World) (h1 : -9223372036854775808 ≤ num) (h2 : num ≤ 9223372036854775807) (h3 : -9223372036854775808 ≤ den) (h4 : den ≤ 9223372036854775807) (h5 : 0 ≤ most) (h6 : most ≤ 1000000) :
    Calls Try.prog 69 #[.agg #[.int .i64 num, .int .i64 den], .int .i64 most] w fun e w' => e = .returned (.int .i64 (amountE num den most)) ∧ Below w.heap.size w w' := by
  have hw0 := Below.refl w.heap.size w
  by_cases hd : den < 1
  · have he := Lib.hid (show amountE num den most = 3 by simp [amountE, hd])
    go_enter Try.func69, Try.ntmps69
    go_wp2_with fail
    go_ret
    exact ⟨ret_int he.out.symm, hw0.alloc (Nat.le_refl _) _⟩
  · have c0 := cells_new w #[.int .i64 num, .int .i64 den] 37 0 _ rfl
    have c1 := cells_new w #[.int .i64 num, .int .i64 den] 37 1 _ rfl
    have hlt : w.heap.size < (w.alloc (.cells #[.int .i64 num, .int .i64 den] 37)).heap.size := by simp
    replace hw0 := hw0.alloc (Nat.le_refl _) (.cells #[.int .i64 num, .int .i64 den] 37)
    have hl := divisor_any num den (w.alloc (.cells #[.int .i64 num, .int .i64 den] 37)) h1 h2 (by omega) h4
    have hdz : (den == 0) = false := by simp; omega
    by_cases hg : Int.gcd num den = 1
    · rw [hg] at hl
      by_cases hm : 100 % den = 0
      · have hle := den_le (by omega) hm
        have hmb : (100 % den != 0) = false := by simp [hm]
        have hb1 := mul_small most den (by omega) (by omega) (by omega) hle
        have hb2 := mul_small (-most) den (by omega) (by omega) (by omega) hle
        have he := Lib.hid (show amountE num den most = if num < -most * den ∨ most * den < num then 1 else 0 by simp [amountE, hd, hg, hm])
        clear hg hm
        by_cases ho1 : num < -most * den
        · go_enter Try.func69, Try.ntmps69
          go_wp2_with fail
          generalize w.alloc (.cells #[.int .i64 num, .int .i64 den] 37) = W at *
          refine hl.mono ?_
          rintro e w1 ⟨rfl, hb⟩
          replace c0 := (hb.cell (p := ⟨w.heap.size, 0, none⟩) hlt).trans c0
          replace c1 := (hb.cell (p := ⟨w.heap.size, 1, none⟩) hlt).trans c1
          replace hw0 := hw0.trans (hb.mono (Nat.le_of_lt hlt))
          clear hb hlt hl
          go_wp2_with fail
          go_ret
          exact ⟨ret_int (by rw [he.out, if_pos (.inl ho1)]), hw0⟩
        · by_cases ho2 : most * den < num
          · go_enter Try.func69, Try.ntmps69
            go_wp2_with fail
            generalize w.alloc (.cells #[.int .i64 num, .int .i64 den] 37) = W at *
            refine hl.mono ?_
            rintro e w1 ⟨rfl, hb⟩
            replace c0 := (hb.cell (p := ⟨w.heap.size, 0, none⟩) hlt).trans c0
            replace c1 := (hb.cell (p := ⟨w.heap.size, 1, none⟩) hlt).trans c1
            replace hw0 := hw0.trans (hb.mono (Nat.le_of_lt hlt))
            clear hb hlt hl
            go_wp2_with fail
            go_ret
            exact ⟨ret_int (by rw [he.out, if_pos (.inr ho2)]), hw0⟩
          · go_enter Try.func69, Try.ntmps69
            go_wp2_with fail
            generalize w.alloc (.cells #[.int .i64 num, .int .i64 den] 37) = W at *
            refine hl.mono ?_
            rintro e w1 ⟨rfl, hb⟩
            replace c0 := (hb.cell (p := ⟨w.heap.size, 0, none⟩) hlt).trans c0
            replace c1 := (hb.cell (p := ⟨w.heap.size, 1, none⟩) hlt).trans c1
            replace hw0 := hw0.trans (hb.mono (Nat.le_of_lt hlt))
            clear hb hlt hl
            go_wp2_with fail
            go_ret
            exact ⟨ret_int (by rw [he.out, if_neg (by omega)]), hw0⟩
      · have hmb : (100 % den != 0) = true := by simp [hm]
        have he := Lib.hid (show amountE num den most = 1 by simp [amountE, hd, hg, hm])
        clear hg hm
        go_enter Try.func69, Try.ntmps69
        go_wp2_with fail
        generalize w.alloc (.cells #[.int .i64 num, .int .i64 den] 37) = W at *
        refine hl.mono ?_
        rintro e w1 ⟨rfl, hb⟩
        replace c0 := (hb.cell (p := ⟨w.heap.size, 0, none⟩) hlt).trans c0
        replace c1 := (hb.cell (p := ⟨w.heap.size, 1, none⟩) hlt).trans c1
        replace hw0 := hw0.trans (hb.mono (Nat.le_of_lt hlt))
        clear hb hlt hl
        go_wp2_with fail
        go_ret
        exact ⟨ret_int he.out.symm, hw0⟩
    · have he := Lib.hid (show amountE num den most = 3 by simp [amountE, hg])
      have hgb : (((Int.gcd num den : Nat) : Int) != 1) = true := by simp; omega
      generalize ((Int.gcd num den : Nat) : Int) = g at *
      clear hg
      go_enter Try.func69, Try.ntmps69
      go_wp2_with fail
      generalize w.alloc (.cells #[.int .i64 num, .int .i64 den] 37) = W at *
      refine hl.mono ?_
      rintro e w1 ⟨rfl, hb⟩
      replace hw0 := hw0.trans (hb.mono (Nat.le_of_lt hlt))
      clear hb hlt hl
      go_wp2_with fail
      go_ret
      exact ⟨ret_int he.out.symm, hw0⟩
end Go.Proofs.Ytkdimgghljklmaa
/-
  Finals: faults of legs, the program's look. Conditions: at most 1000000 legs; whole numbers are Go's.
-/
set_option linter.unusedVariables false
namespace Go.Proofs.Ytkdimgghljklmaa
open Go.RowKit Go.Bw
/-- Legs in memory. -/
structure LgH (w : World) (v : Value) (xs : List (Int × Int)) : Prop where
  r : Row w 0 2 v xs.length (cells2 xs)
  n : xs.length ≤ 1000000
  i : ∀ x ∈ xs, -9223372036854775808 ≤ x.1 ∧ x.1 ≤ 9223372036854775807 ∧ -9223372036854775808 ≤ x.2 ∧ x.2 ≤ 9223372036854775807
theorem LgH.below {w w' : World} {v : Value} {xs : List (Int × Int)} (h : LgH w v xs) (b : Below w.heap.size w w') : LgH w' v xs := ⟨h.r.below b, h.n, h.i⟩
theorem getp_mem {l : List (Int × Int)} {k : Int} (h0 : 0 ≤ k) (h1 : k < l.length) : getp l k ∈ l := by
  have : k.toNat < l.length := by omega
  simp [getp, this]
def legK (xs : List (Int × Int)) (k : Int) : Int := amountE (getp xs k).1 (getp xs k).2 1000000
def legsE (xs : List (Int × Int)) : Int := firstErr (legK xs) xs.length
/-- A fraction in a box of two cells. -/
structure F2 (w : World) (g : Nat) (x y : Int) : Prop where
  c0 : w.cell? ⟨g, 0, none⟩ = some (.int .i64 x)
  c1 : w.cell? ⟨g, 1, none⟩ = some (.int .i64 y)
theorem F2.new (w : World) (x y : Int) (e : TypeId) : F2 (w.alloc (.cells #[.int .i64 x, .int .i64 y] e)) w.heap.size x y := ⟨cells_new w _ _ 0 _ rfl, cells_new w _ _ 1 _ rfl⟩
theorem F2.below {w w' : World} {g : Nat} {x y : Int} (h : F2 w g x y) (b : Below w.heap.size w w') : F2 w' g x y :=
  ⟨(b.cell (World.block_lt_of_cell? w _ h.c0)).trans h.c0, (b.cell (World.block_lt_of_cell? w _ h.c1)).trans h.c1⟩
noncomputable def lfP : Code := (Try.f61.body).getD .skip
set_option maxRecDepth 100000 in
theorem fr_lfP (f : Nat → Value) : frame 18 f = ⟨#[f 0, f 1, f 2, f 3, f 4, f 5, f 6, f 7, f 8, f 9, f 10, f 11, f 12, f 13, f 14, f 15, f 16, f 17], []⟩ := by rfl
set_option maxRecDepth 100000 in
set_option maxHeartbeats 1000000 in
theorem lf0 (w0 : World) (va : Value) (xs : List (Int × Int)) (h : LgH w0 va xs) : T3 Try.prog (fun a w => (IsW w0 w) ∧ Fr 18 [(0, va)] a) (sel [0] lfP) (fun a w => (IsW w0 w) ∧ Fr 18 [(0, va)] a) No 9 (fun a w => Fr 18 [(2, .int .i64 (legsE xs))] a ∧ Below w0.heap.size w0 w) := by
  refine T3.leaf ?_
  rintro Q JS JX JT K hS hK hX hE hT hR a w ⟨hW, ⟨fr, rfl, q0, _⟩⟩
  have HW := Lib.hid hW
  obtain ⟨p1, c1, hv1⟩ := h.r.shape
  subst hv1
  clear hW
  rw [fr_lfP, show fr 0 = _ from q0]
  clear q0
  conv => arg 2; whnf
  go_wp2_with fail
  refine Met.intro (hS _ _ ?_)
  exact ⟨HW.out, Fr.of _ rfl ⟨rfl, trivial⟩⟩

set_option maxRecDepth 100000 in
set_option maxHeartbeats 1000000 in
theorem lf1 (w0 : World) (va : Value) (xs : List (Int × Int)) (h : LgH w0 va xs) : T3 Try.prog (fun a w => (IsW w0 w) ∧ Fr 18 [(0, va)] a) (sel [1, 0, 0] lfP) (fun a w => (0 ≤ (0 : Int) ∧ (0 : Int) ≤ xs.length) ∧ (NoErr (legK xs) 0) ∧ (Below w0.heap.size w0 w) ∧ Fr 18 [(6, va), (7, .int .i64 xs.length), (8, .int .i64 0)] a) No 9 (fun a w => Fr 18 [(2, .int .i64 (legsE xs))] a ∧ Below w0.heap.size w0 w) := by
  refine T3.leaf ?_
  rintro Q JS JX JT K hS hK hX hE hT hR a w ⟨hW, ⟨fr, rfl, q0, _⟩⟩
  obtain ⟨p1, c1, hv1⟩ := h.r.shape
  subst hv1
  obtain rfl : w = w0 := hW
  rw [fr_lfP, show fr 0 = _ from q0]
  clear q0
  conv => arg 2; whnf
  go_wp2_with fail
  refine Met.intro (hS _ _ ?_)
  exact ⟨⟨by omega, by omega⟩, NoErr.zero _, Below.refl _ _, Fr.of _ rfl ⟨rfl, rfl, rfl, trivial⟩⟩

set_option maxRecDepth 100000 in
set_option maxHeartbeats 1000000 in
theorem lf3 (w0 : World) (va : Value) (xs : List (Int × Int)) (h : LgH w0 va xs) (k : Int) : T3 Try.prog (fun a w => ((0 ≤ k ∧ k < xs.length) ∧ NoErr (legK xs) k) ∧ (Below w0.heap.size w0 w) ∧ Fr 18 [(6, va), (7, .int .i64 xs.length), (8, .int .i64 k)] a) (sel [1, 0, 1, 4, 4, 1, 1, 0, 4, 0] lfP) (fun a w => ∃ (g4 : Nat), ((0 ≤ k ∧ k < xs.length) ∧ NoErr (legK xs) k) ∧ (Below w0.heap.size w0 w ∧ F2 w g4 (getp xs k).1 (getp xs k).2) ∧ Fr 18 [(4, .pointer (some ⟨g4, 0, none⟩)), (6, va), (7, .int .i64 xs.length), (8, .int .i64 k)] a) No 9 (fun a w => Fr 18 [(2, .int .i64 (legsE xs))] a ∧ Below w0.heap.size w0 w) := by
  refine T3.leaf ?_
  rintro Q JS JX JT K hS hK hX hE hT hR a w ⟨hpre, hW, ⟨fr, rfl, q6, q7, q8, _⟩⟩
  have hpp := Lib.hid hpre
  obtain ⟨⟨hk0, hk1⟩, _⟩ := hpre
  have HW := Lib.hid hW
  have hn := h.n
  obtain ⟨_, hcs⟩ := row_pairs (h.r.below hW)
  rcases hcs with ⟨rfl, h0⟩ | ⟨bz, off, cap, rfl, _, hbz, hnc, hcm, hcell⟩
  · omega
  obtain ⟨t0, t1⟩ := hcell k hk0 hk1
  have HN := Lib.hid (fun w' : World => F2.new w' (getp xs k).1 (getp xs k).2)
  clear hcell hW
  generalize (getp xs k).1 = num at *
  generalize (getp xs k).2 = den at *
  rw [fr_lfP, show fr 6 = _ from q6, show fr 7 = _ from q7, show fr 8 = _ from q8]
  clear q6 q7 q8
  conv => arg 2; whnf
  go_wp2_with fail
  refine Met.intro (hS _ _ ?_)
  exact ⟨_, hpp.out, ⟨HW.out.alloc HW.out.size _, HN.out w _⟩, Fr.of _ rfl ⟨rfl, rfl, rfl, rfl, trivial⟩⟩

set_option maxRecDepth 100000 in
set_option maxHeartbeats 1000000 in
theorem lf4 (w0 : World) (va : Value) (xs : List (Int × Int)) (h : LgH w0 va xs) (k : Int) (g4 : Nat) : T3 Try.prog (fun a w => ((0 ≤ k ∧ k < xs.length) ∧ NoErr (legK xs) k) ∧ (Below w0.heap.size w0 w ∧ F2 w g4 (getp xs k).1 (getp xs k).2) ∧ Fr 18 [(4, .pointer (some ⟨g4, 0, none⟩)), (6, va), (7, .int .i64 xs.length), (8, .int .i64 k)] a) (sel [1, 0, 1, 4, 4, 1, 1, 0, 4, 1, 0] lfP) (fun a w => ((0 ≤ k ∧ k < xs.length) ∧ NoErr (legK xs) k) ∧ (Below w0.heap.size w0 w ∧ F2 w g4 (getp xs k).1 (getp xs k).2) ∧ Fr 18 [(4, .pointer (some ⟨g4, 0, none⟩)), (5, .int .i64 (legK xs k)), (6, va), (7, .int .i64 xs.length), (8, .int .i64 k)] a) No 9 (fun a w => Fr 18 [(2, .int .i64 (legsE xs))] a ∧ Below w0.heap.size w0 w) := by
  refine T3.leaf ?_
  rintro Q JS JX JT K hS hK hX hE hT hR a w ⟨hpre, hW, ⟨fr, rfl, q4, q6, q7, q8, _⟩⟩
  have hpp := Lib.hid hpre
  obtain ⟨⟨hk0, hk1⟩, _⟩ := hpre
  have HW := Lib.hid hW
  obtain ⟨i1, i2, i3, i4⟩ := h.i _ (getp_mem hk0 hk1)
  have HC := Lib.hid (amount_prog (getp xs k).1 (getp xs k).2 1000000 w i1 i2 i3 i4 (by decide) (by decide))
  have t0 := hW.2.c0
  have t1 := hW.2.c1
  obtain ⟨p1, c1, hv1⟩ := h.r.shape
  subst hv1
  clear hW i1 i2 i3 i4
  have HL := Lib.hid (show amountE (getp xs k).1 (getp xs k).2 1000000 = legK xs k from rfl)
  generalize (getp xs k).1 = num at *
  generalize (getp xs k).2 = den at *
  generalize legK xs k = e0 at *
  rw [fr_lfP, show fr 4 = _ from q4, show fr 6 = _ from q6, show fr 7 = _ from q7, show fr 8 = _ from q8]
  clear q4 q6 q7 q8
  conv => arg 2; whnf
  go_wp2_with fail
  refine HC.out.mono ?_
  rintro e w1 ⟨rfl, hb⟩
  have HR := Lib.hid (show Below w0.heap.size w0 w1 ∧ F2 w1 g4 num den from ⟨HW.out.1.trans (hb.mono HW.out.1.size), HW.out.2.below hb⟩)
  clear hb
  rw [HL.out]
  go_wp2_with fail
  refine Met.intro (hS _ _ ?_)
  exact ⟨hpp.out, HR.out, Fr.of _ rfl ⟨rfl, rfl, rfl, rfl, rfl, trivial⟩⟩

set_option maxRecDepth 100000 in
set_option maxHeartbeats 1000000 in
theorem lf5 (w0 : World) (va : Value) (xs : List (Int × Int)) (h : LgH w0 va xs) (k : Int) (g4 : Nat) : T3 Try.prog (fun a w => ((0 ≤ k ∧ k < xs.length) ∧ NoErr (legK xs) k) ∧ (Below w0.heap.size w0 w ∧ F2 w g4 (getp xs k).1 (getp xs k).2) ∧ Fr 18 [(4, .pointer (some ⟨g4, 0, none⟩)), (5, .int .i64 (legK xs k)), (6, va), (7, .int .i64 xs.length), (8, .int .i64 k)] a) (sel [1, 0, 1, 4, 4, 1, 1, 0, 4, 1, 1, 0] lfP) (fun a w => ∃ q, Fr 18 ((15, .bool q) :: [(4, .pointer (some ⟨g4, 0, none⟩)), (5, .int .i64 (legK xs k)), (6, va), (7, .int .i64 xs.length), (8, .int .i64 k)]) a ∧ ((((0 ≤ k ∧ k < xs.length) ∧ NoErr (legK xs) k) ∧ q = (legK xs k != 0)) ∧ Below w0.heap.size w0 w ∧ F2 w g4 (getp xs k).1 (getp xs k).2)) No 9 (fun a w => Fr 18 [(2, .int .i64 (legsE xs))] a ∧ Below w0.heap.size w0 w) := by
  refine T3.leaf ?_
  rintro Q JS JX JT K hS hK hX hE hT hR a w ⟨hpre, hW, ⟨fr, rfl, q4, q5, q6, q7, q8, _⟩⟩
  have HW := Lib.hid hW
  obtain ⟨p1, c1, hv1⟩ := h.r.shape
  subst hv1
  clear hW
  generalize (getp xs k).1 = num at *
  generalize (getp xs k).2 = den at *
  generalize hpk : legK xs k = e0 at *
  clear hpk
  rw [fr_lfP, show fr 4 = _ from q4, show fr 5 = _ from q5, show fr 6 = _ from q6, show fr 7 = _ from q7, show fr 8 = _ from q8]
  clear q4 q5 q6 q7 q8
  conv => arg 2; whnf
  go_wp2_with fail
  refine Met.intro (hS _ _ ?_)
  exact ⟨_, Fr.of _ rfl ⟨rfl, rfl, rfl, rfl, rfl, rfl, trivial⟩, ⟨hpre, rfl⟩, HW.out⟩

set_option maxRecDepth 100000 in
set_option maxHeartbeats 1000000 in
theorem lf6 (w0 : World) (va : Value) (xs : List (Int × Int)) (h : LgH w0 va xs) (k : Int) (g4 : Nat) : T3 Try.prog (fun a w => (Below w0.heap.size w0 w ∧ F2 w g4 (getp xs k).1 (getp xs k).2) ∧ Fr 18 [(4, .pointer (some ⟨g4, 0, none⟩)), (5, .int .i64 (legK xs k)), (6, va), (7, .int .i64 xs.length), (8, .int .i64 k)] a) (sel [1, 0, 1, 4, 4, 1, 1, 0, 4, 1, 1, 1, 2, 0] lfP) (fun a w => (Below w0.heap.size w0 w) ∧ Fr 18 [(2, .int .i64 (legK xs k))] a) No 9 (fun a w => Fr 18 [(2, .int .i64 (legsE xs))] a ∧ Below w0.heap.size w0 w) := by
  refine T3.leaf ?_
  rintro Q JS JX JT K hS hK hX hE hT hR a w ⟨hW, ⟨fr, rfl, q4, q5, q6, q7, q8, _⟩⟩
  have HW := Lib.hid hW
  obtain ⟨p1, c1, hv1⟩ := h.r.shape
  subst hv1
  clear hW
  generalize (getp xs k).1 = num at *
  generalize (getp xs k).2 = den at *
  generalize legK xs k = e0 at *
  rw [fr_lfP, show fr 4 = _ from q4, show fr 5 = _ from q5, show fr 6 = _ from q6, show fr 7 = _ from q7, show fr 8 = _ from q8]
  clear q4 q5 q6 q7 q8
  conv => arg 2; whnf
  go_wp2_with fail
  refine Met.intro (hS _ _ ?_)
  exact ⟨HW.out.1, Fr.of _ rfl ⟨rfl, trivial⟩⟩

set_option maxRecDepth 100000 in
set_option maxHeartbeats 1000000 in
theorem lfb (w0 : World) (va : Value) (xs : List (Int × Int)) (h : LgH w0 va xs) (k : Int) : T3 Try.prog (fun a w => ((0 ≤ k ∧ k < xs.length) ∧ NoErr (legK xs) k) ∧ (Below w0.heap.size w0 w) ∧ Fr 18 [(6, va), (7, .int .i64 xs.length), (8, .int .i64 k)] a) (sel [1, 0, 1, 4, 4, 1, 1, 0] lfP) (fun a w => ((0 ≤ k ∧ k < xs.length) ∧ NoErr (legK xs) (k + 1)) ∧ (Below w0.heap.size w0 w) ∧ Fr 18 [(6, va), (7, .int .i64 xs.length), (8, .int .i64 k)] a) No 100 (fun a w => Fr 18 [(2, .int .i64 (legsE xs))] a ∧ Below w0.heap.size w0 w) := by
  refine T3.block (id' := 1) (c := (sel [1, 0, 1, 4, 4, 1, 1, 0, 4] lfP)) (by decide) ?_
  refine T3.seq (s := (sel [1, 0, 1, 4, 4, 1, 1, 0, 4, 0] lfP)) (c := (sel [1, 0, 1, 4, 4, 1, 1, 0, 4, 1] lfP)) ((lf3 w0 va xs h k).noX) (T3.ex fun g4 => ?_)
  refine T3.seq (s := (sel [1, 0, 1, 4, 4, 1, 1, 0, 4, 1, 0] lfP)) (c := (sel [1, 0, 1, 4, 4, 1, 1, 0, 4, 1, 1] lfP)) ((lf4 w0 va xs h k g4).noX) ?_
  refine T3.test (s := (sel [1, 0, 1, 4, 4, 1, 1, 0, 4, 1, 1, 0] lfP)) (x := (sel [1, 0, 1, 4, 4, 1, 1, 0, 4, 1, 1, 1, 2] lfP)) (y := .skip) (C := fun q => (((0 ≤ k ∧ k < xs.length) ∧ NoErr (legK xs) k) ∧ q = (legK xs k != 0))) (W := fun w => Below w0.heap.size w0 w ∧ F2 w g4 (getp xs k).1 (getp xs k).2) (by decide) ((lf5 w0 va xs h k g4).noX) ?_ (T3.skip ?_)
  · refine T3.seq (s := (sel [1, 0, 1, 4, 4, 1, 1, 0, 4, 1, 1, 1, 2, 0] lfP)) (c := .ret) (t3_seqx (p := ((0 ≤ k ∧ k < xs.length) ∧ NoErr (legK xs) k) ∧ legK xs k ≠ 0) ((lf6 w0 va xs h k g4).noX) ?_) (T3.ret ?_)
    · rintro a w ⟨hF, ⟨hk, hq⟩, hW⟩
      exact ⟨⟨hk, by have := hq.symm; simpa using this⟩, hW, hF.tail⟩
    · rintro a w ⟨⟨hk, hne⟩, hW, hF⟩
      have e : legsE xs = legK xs k := firstErr_hit hk.2 hk.1.1 hk.1.2 hne
      exact ⟨by rw [e]; exact hF, hW⟩
  · rintro a w ⟨⟨hk, hq⟩, hW, hF⟩
    exact ⟨⟨hk.1, hk.2.step (by have := hq.symm; simpa using this)⟩, hW.1, hF.sub (by simp)⟩

def lfI (w0 : World) (va : Value) (xs : List (Int × Int)) (h : LgH w0 va xs) (k : Int) (a : Act) (w : World) : Prop := (0 ≤ k ∧ k ≤ xs.length) ∧ (NoErr (legK xs) k) ∧ (Below w0.heap.size w0 w) ∧ Fr 18 [(6, va), (7, .int .i64 xs.length), (8, .int .i64 k)] a
set_option maxRecDepth 100000 in
set_option maxHeartbeats 1000000 in
theorem lft (w0 : World) (va : Value) (xs : List (Int × Int)) (h : LgH w0 va xs) (k : Int) : T3 Try.prog (fun a w => lfI w0 va xs h k a w) (sel [1, 0, 1, 4, 4, 0] lfP) (fun a w => ∃ q, Fr 18 ((9, .bool q) :: [(8, .int .i64 k)]) a ∧ ((q = true ↔ k < xs.length) ∧ lfI w0 va xs h k a w)) No 9 (fun a w => Fr 18 [(2, .int .i64 (legsE xs))] a ∧ Below w0.heap.size w0 w) := by
  refine T3.leaf ?_
  rintro Q JS JX JT K hS hK hX hE hT hR a w ⟨hk, hpre, hW, ⟨fr, rfl, q6, q7, q8, _⟩⟩
  have hln := h.n
  rw [fr_lfP, show fr 6 = _ from q6, show fr 7 = _ from q7, show fr 8 = _ from q8]
  clear q6 q7 q8
  conv => arg 2; whnf
  by_cases hlt : k < xs.length
  · go_wp2_with fail
    refine Met.intro (hS _ _ ?_)
    exact ⟨true, Fr.of _ rfl ⟨rfl, rfl, trivial⟩, ⟨fun _ => hlt, fun _ => rfl⟩, hk, hpre, hW, Fr.of _ rfl ⟨rfl, rfl, rfl, trivial⟩⟩
  · have hpb : decide (k < (xs.length : Int)) = false := by simp; omega
    go_wp2_with fail
    refine Met.intro (hS _ _ ?_)
    exact ⟨false, Fr.of _ rfl ⟨rfl, rfl, trivial⟩, ⟨(fun h => by cases h), fun h => absurd h (by omega)⟩, hk, hpre, hW, Fr.of _ rfl ⟨rfl, rfl, rfl, trivial⟩⟩

set_option maxRecDepth 100000 in
set_option maxHeartbeats 1000000 in
theorem lfn (w0 : World) (va : Value) (xs : List (Int × Int)) (h : LgH w0 va xs) (k : Int) : T3 Try.prog (fun a w => (0 ≤ k ∧ k < xs.length) ∧ (NoErr (legK xs) (k + 1)) ∧ (Below w0.heap.size w0 w) ∧ Fr 18 [(6, va), (7, .int .i64 xs.length), (8, .int .i64 k)] a) (sel [1, 0, 1, 4, 4, 1, 1, 1] lfP) (fun a w => lfI w0 va xs h (k + 1) a w) No 9 (fun a w => Fr 18 [(2, .int .i64 (legsE xs))] a ∧ Below w0.heap.size w0 w) := by
  refine T3.leaf ?_
  rintro Q JS JX JT K hS hK hX hE hT hR a w ⟨hk, hpre, hW, ⟨fr, rfl, q6, q7, q8, _⟩⟩
  obtain ⟨hk0, hk1⟩ := hk
  have hln := h.n
  rw [fr_lfP, show fr 6 = _ from q6, show fr 7 = _ from q7, show fr 8 = _ from q8]
  clear q6 q7 q8
  conv => arg 2; whnf
  go_wp2_with fail
  refine Met.intro (hS _ _ ?_)
  exact ⟨⟨by omega, by omega⟩, hpre, hW, Fr.of _ rfl ⟨rfl, rfl, rfl, trivial⟩⟩

set_option maxRecDepth 100000 in
set_option maxHeartbeats 1000000 in
theorem lfloop (w0 : World) (va : Value) (xs : List (Int × Int)) (h : LgH w0 va xs) : T3 Try.prog (fun a w => lfI w0 va xs h 0 a w) (sel [1, 0, 1] lfP) (fun a w => (NoErr (legK xs) xs.length) ∧ (Below w0.heap.size w0 w) ∧ Fr 18 [] a) No 9 (fun a w => Fr 18 [(2, .int .i64 (legsE xs))] a ∧ Below w0.heap.size w0 w) := by
  refine T3.loop (c := (sel [1, 0, 1, 4, 4] lfP)) (fun ng_ a w => ∃ k : Int, (ng_ : Int) = xs.length - k ∧ lfI w0 va xs h k a w) (fun a w h => ⟨(xs.length : Int).toNat, 0, by have := h.1.2; omega, h⟩) (fun ng_ => T3.ex fun k => T3.pure fun hng_ => ?_)
  refine T3.seq (s := (sel [1, 0, 1, 4, 4, 0] lfP)) (c := (sel [1, 0, 1, 4, 4, 1] lfP)) ((lft w0 va xs h k).noX) ?_
  refine T3.seq (s := (sel [1, 0, 1, 4, 4, 1, 0] lfP)) (c := (sel [1, 0, 1, 4, 4, 1, 1] lfP)) (S := fun a w => (0 ≤ k ∧ k < xs.length) ∧ (NoErr (legK xs) k) ∧ (Below w0.heap.size w0 w) ∧ Fr 18 [(6, va), (7, .int .i64 xs.length), (8, .int .i64 k)] a) ?_ (T3.seq (s := (sel [1, 0, 1, 4, 4, 1, 1, 0] lfP)) (c := (sel [1, 0, 1, 4, 4, 1, 1, 1] lfP)) (S := fun a w => (0 ≤ k ∧ k < xs.length) ∧ (NoErr (legK xs) (k + 1)) ∧ (Below w0.heap.size w0 w) ∧ Fr 18 [(6, va), (7, .int .i64 xs.length), (8, .int .i64 k)] a) (T3.noX (T3.mono (R' := fun a w => (0 ≤ k ∧ k < xs.length) ∧ (NoErr (legK xs) k) ∧ (Below w0.heap.size w0 w) ∧ Fr 18 [(6, va), (7, .int .i64 xs.length), (8, .int .i64 k)] a) (S' := fun a w => (0 ≤ k ∧ k < xs.length) ∧ (NoErr (legK xs) (k + 1)) ∧ (Below w0.heap.size w0 w) ∧ Fr 18 [(6, va), (7, .int .i64 xs.length), (8, .int .i64 k)] a) (lfb w0 va xs h k) (fun a w ⟨hk, hp, hI⟩ => ⟨⟨hk, hp⟩, hI⟩) (fun a w ⟨⟨hk, hp⟩, hI⟩ => ⟨hk, hp, hI⟩) (fun _ _ q => q) (fun _ _ q => q))) ?_)
  · refine T3.cond (o := .tmp 9) (x := .skip) (y := .exit 0) (fun a w => k < xs.length ∧ lfI w0 va xs h k a w) (fun a w => ¬ k < xs.length ∧ lfI w0 va xs h k a w) ?_ (T3.skip ?_) (T3.exit ?_)
    · rintro a w ⟨q, hF, hq, hI⟩
      have he := hF.eval 9 (by decide) (v := .bool q) (by simp)
      cases q
      · exact .inr ⟨he, (fun h => by have := hq.2 h; cases this), hI⟩
      · exact .inl ⟨he, hq.1 rfl, hI⟩
    · rintro a w ⟨hlt, hk, hI⟩
      exact ⟨⟨hk.1, hlt⟩, hI⟩
    · rintro a w ⟨hlt, hk, hI⟩
      obtain rfl : k = xs.length := by omega
      obtain ⟨hn, hW, hF⟩ := hI
      exact ⟨hn, hW, hF.sub (by simp)⟩
  · intro a w hx
    have hk := hx.1
    exact (((lfn w0 va xs h k).noX).post (fun a w q => ⟨ng_ - 1, by omega, k + 1, by omega, q⟩)) a w hx
set_option maxRecDepth 100000 in
set_option maxHeartbeats 1000000 in
theorem lf8 (w0 : World) (va : Value) (xs : List (Int × Int)) (h : LgH w0 va xs) (hn : NoErr (legK xs) xs.length) : T3 Try.prog (fun a w => (Below w0.heap.size w0 w) ∧ Fr 18 [] a) (sel [1, 1, 0] lfP) (fun a w => (Below w0.heap.size w0 w) ∧ Fr 18 [(2, .int .i64 0)] a) No 9 (fun a w => Fr 18 [(2, .int .i64 (legsE xs))] a ∧ Below w0.heap.size w0 w) := by
  refine T3.leaf ?_
  rintro Q JS JX JT K hS hK hX hE hT hR a w ⟨hW, ⟨fr, rfl, _⟩⟩
  have HW := Lib.hid hW
  clear hW hn
  rw [fr_lfP]
  conv => arg 2; whnf
  go_wp2_with fail
  refine Met.intro (hS _ _ ?_)
  exact ⟨HW.out, Fr.of _ rfl ⟨rfl, trivial⟩⟩

set_option maxRecDepth 100000 in
set_option maxHeartbeats 1000000 in
theorem lf_all (w0 : World) (va : Value) (xs : List (Int × Int)) (h : LgH w0 va xs) : T3 Try.prog (fun a w => (IsW w0 w) ∧ Fr 18 [(0, va)] a) lfP No No 9 (fun a w => Fr 18 [(2, .int .i64 (legsE xs))] a ∧ Below w0.heap.size w0 w) := by
  refine T3.seq (s := (sel [0] lfP)) (c := (sel [1] lfP)) (lf0 w0 va xs h) ?_
  refine T3.seq (s := (sel [1, 0] lfP)) (c := (sel [1, 1] lfP)) (T3.seq (s := (sel [1, 0, 0] lfP)) (c := (sel [1, 0, 1] lfP)) (lf1 w0 va xs h) (lfloop w0 va xs h)) ?_
  refine T3.pure fun hn => ?_
  refine T3.seq (s := (sel [1, 1, 0] lfP)) (c := .ret) (lf8 w0 va xs h hn) (T3.ret ?_)
  rintro a w ⟨hW, hF⟩
  have e : legsE xs = 0 := firstErr_none hn
  exact ⟨by rw [e]; exact hF, hW⟩

set_option maxRecDepth 100000 in
set_option maxHeartbeats 1000000 in
theorem legsFault_prog (w0 : World) (va : Value) (xs : List (Int × Int)) (h : LgH w0 va xs) : Calls Try.prog 61 #[va] w0 fun e w' => e = .returned (.int .i64 (legsE xs)) ∧ Below w0.heap.size w0 w' := by
  have hall := lf_all w0 va xs h
  go_enter Try.func61, Try.ntmps61
  refine T3.done (s := lfP) hall ⟨rfl, Fr.of _ rfl ⟨rfl, trivial⟩⟩ ?_
  rintro a w ⟨⟨fr, rfl, q2, _⟩, hb⟩
  rw [fr_lfP, show fr 2 = _ from q2]
  go_ret
  exact ⟨rfl, hb⟩
end Go.Proofs.Ytkdimgghljklmaa
/-
  Finals: the first of some errors. Condition: at most 1000000 of them.
-/
set_option linter.unusedVariables false
namespace Go.Proofs.Ytkdimgghljklmaa
open Go.RowKit Go.Bw
def fstE (l : List Int) : Int := firstErr (geti l) l.length
/-- Errors in memory. -/
structure EsH (w : World) (v : Value) (l : List Int) : Prop where
  r : Row w 0 1 v l.length (l.map (.int .i64))
  n : l.length ≤ 1000000
noncomputable def fiP : Code := (Try.f60.body).getD .skip
set_option maxRecDepth 100000 in
theorem fr_fiP (f : Nat → Value) : frame 15 f = ⟨#[f 0, f 1, f 2, f 3, f 4, f 5, f 6, f 7, f 8, f 9, f 10, f 11, f 12, f 13, f 14], []⟩ := by rfl
set_option maxRecDepth 100000 in
set_option maxHeartbeats 1000000 in
theorem fi0 (w0 : World) (va : Value) (l : List Int) (h : EsH w0 va l) : T3 Try.prog (fun a w => (IsW w0 w) ∧ Fr 15 [(0, va)] a) (sel [0] fiP) (fun a w => (IsW w0 w) ∧ Fr 15 [(0, va)] a) No 9 (fun a w => Fr 15 [(2, .int .i64 (fstE l))] a ∧ IsW w0 w) := by
  refine T3.leaf ?_
  rintro Q JS JX JT K hS hK hX hE hT hR a w ⟨hW, ⟨fr, rfl, q0, _⟩⟩
  obtain ⟨p1, c1, hv1⟩ := h.r.shape
  subst hv1
  rw [fr_fiP, show fr 0 = _ from q0]
  clear q0
  conv => arg 2; whnf
  go_wp2_with fail
  refine Met.intro (hS _ _ ?_)
  exact ⟨hW, Fr.of _ rfl ⟨rfl, trivial⟩⟩

set_option maxRecDepth 100000 in
set_option maxHeartbeats 1000000 in
theorem fi1 (w0 : World) (va : Value) (l : List Int) (h : EsH w0 va l) : T3 Try.prog (fun a w => (IsW w0 w) ∧ Fr 15 [(0, va)] a) (sel [1, 0, 0] fiP) (fun a w => (0 ≤ (0 : Int) ∧ (0 : Int) ≤ l.length) ∧ (NoErr (geti l) 0) ∧ (IsW w0 w) ∧ Fr 15 [(5, va), (6, .int .i64 l.length), (7, .int .i64 0)] a) No 9 (fun a w => Fr 15 [(2, .int .i64 (fstE l))] a ∧ IsW w0 w) := by
  refine T3.leaf ?_
  rintro Q JS JX JT K hS hK hX hE hT hR a w ⟨hW, ⟨fr, rfl, q0, _⟩⟩
  obtain ⟨p1, c1, hv1⟩ := h.r.shape
  subst hv1
  rw [fr_fiP, show fr 0 = _ from q0]
  clear q0
  conv => arg 2; whnf
  go_wp2_with fail
  refine Met.intro (hS _ _ ?_)
  exact ⟨⟨by omega, by omega⟩, NoErr.zero _, hW, Fr.of _ rfl ⟨rfl, rfl, rfl, trivial⟩⟩

set_option maxRecDepth 100000 in
set_option maxHeartbeats 1000000 in
theorem fi3 (w0 : World) (va : Value) (l : List Int) (h : EsH w0 va l) (k : Int) : T3 Try.prog (fun a w => ((0 ≤ k ∧ k < l.length) ∧ NoErr (geti l) k) ∧ (IsW w0 w) ∧ Fr 15 [(5, va), (6, .int .i64 l.length), (7, .int .i64 k)] a) (sel [1, 0, 1, 4, 4, 1, 1, 0, 4, 0] fiP) (fun a w => ((0 ≤ k ∧ k < l.length) ∧ NoErr (geti l) k) ∧ (IsW w0 w) ∧ Fr 15 [(4, .int .i64 (geti l k)), (5, va), (6, .int .i64 l.length), (7, .int .i64 k)] a) No 9 (fun a w => Fr 15 [(2, .int .i64 (fstE l))] a ∧ IsW w0 w) := by
  refine T3.leaf ?_
  rintro Q JS JX JT K hS hK hX hE hT hR a w ⟨hpre, hW, ⟨fr, rfl, q5, q6, q7, _⟩⟩
  have hpp := Lib.hid hpre
  obtain ⟨⟨hk0, hk1⟩, _⟩ := hpre
  obtain rfl : w = w0 := hW
  have hn := h.n
  obtain ⟨_, hcs⟩ := h.r.ints
  rcases hcs with ⟨rfl, h0⟩ | ⟨bz, off, cap, rfl, _, hbz, hnc, hcm, hcell⟩
  · omega
  have t0 := hcell k hk0 hk1
  clear hcell
  rw [fr_fiP, show fr 5 = _ from q5, show fr 6 = _ from q6, show fr 7 = _ from q7]
  clear q5 q6 q7
  conv => arg 2; whnf
  go_wp2_with fail
  refine Met.intro (hS _ _ ?_)
  exact ⟨hpp.out, rfl, Fr.of _ rfl ⟨rfl, rfl, rfl, rfl, trivial⟩⟩

set_option maxRecDepth 100000 in
set_option maxHeartbeats 1000000 in
theorem fi4 (w0 : World) (va : Value) (l : List Int) (h : EsH w0 va l) (k : Int) : T3 Try.prog (fun a w => ((0 ≤ k ∧ k < l.length) ∧ NoErr (geti l) k) ∧ (IsW w0 w) ∧ Fr 15 [(4, .int .i64 (geti l k)), (5, va), (6, .int .i64 l.length), (7, .int .i64 k)] a) (sel [1, 0, 1, 4, 4, 1, 1, 0, 4, 1, 0] fiP) (fun a w => ∃ q, Fr 15 ((12, .bool q) :: [(4, .int .i64 (geti l k)), (5, va), (6, .int .i64 l.length), (7, .int .i64 k)]) a ∧ ((((0 ≤ k ∧ k < l.length) ∧ NoErr (geti l) k) ∧ q = (geti l k != 0)) ∧ IsW w0 w)) No 9 (fun a w => Fr 15 [(2, .int .i64 (fstE l))] a ∧ IsW w0 w) := by
  refine T3.leaf ?_
  rintro Q JS JX JT K hS hK hX hE hT hR a w ⟨hpre, hW, ⟨fr, rfl, q4, q5, q6, q7, _⟩⟩
  obtain ⟨p1, c1, hv1⟩ := h.r.shape
  subst hv1
  generalize hpk : geti l k = e0 at *
  clear hpk
  rw [fr_fiP, show fr 4 = _ from q4, show fr 5 = _ from q5, show fr 6 = _ from q6, show fr 7 = _ from q7]
  clear q4 q5 q6 q7
  conv => arg 2; whnf
  go_wp2_with fail
  refine Met.intro (hS _ _ ?_)
  exact ⟨_, Fr.of _ rfl ⟨rfl, rfl, rfl, rfl, rfl, trivial⟩, ⟨hpre, rfl⟩, hW⟩

set_option maxRecDepth 100000 in
set_option maxHeartbeats 1000000 in
theorem fi5 (w0 : World) (va : Value) (l : List Int) (h : EsH w0 va l) (k : Int) : T3 Try.prog (fun a w => (IsW w0 w) ∧ Fr 15 [(4, .int .i64 (geti l k)), (5, va), (6, .int .i64 l.length), (7, .int .i64 k)] a) (sel [1, 0, 1, 4, 4, 1, 1, 0, 4, 1, 1, 2, 0] fiP) (fun a w => (IsW w0 w) ∧ Fr 15 [(2, .int .i64 (geti l k))] a) No 9 (fun a w => Fr 15 [(2, .int .i64 (fstE l))] a ∧ IsW w0 w) := by
  refine T3.leaf ?_
  rintro Q JS JX JT K hS hK hX hE hT hR a w ⟨hW, ⟨fr, rfl, q4, q5, q6, q7, _⟩⟩
  obtain ⟨p1, c1, hv1⟩ := h.r.shape
  subst hv1
  generalize geti l k = e0 at *
  rw [fr_fiP, show fr 4 = _ from q4, show fr 5 = _ from q5, show fr 6 = _ from q6, show fr 7 = _ from q7]
  clear q4 q5 q6 q7
  conv => arg 2; whnf
  go_wp2_with fail
  refine Met.intro (hS _ _ ?_)
  exact ⟨hW, Fr.of _ rfl ⟨rfl, trivial⟩⟩

set_option maxRecDepth 100000 in
set_option maxHeartbeats 1000000 in
theorem fib (w0 : World) (va : Value) (l : List Int) (h : EsH w0 va l) (k : Int) : T3 Try.prog (fun a w => ((0 ≤ k ∧ k < l.length) ∧ NoErr (geti l) k) ∧ (IsW w0 w) ∧ Fr 15 [(5, va), (6, .int .i64 l.length), (7, .int .i64 k)] a) (sel [1, 0, 1, 4, 4, 1, 1, 0] fiP) (fun a w => ((0 ≤ k ∧ k < l.length) ∧ NoErr (geti l) (k + 1)) ∧ (IsW w0 w) ∧ Fr 15 [(5, va), (6, .int .i64 l.length), (7, .int .i64 k)] a) No 100 (fun a w => Fr 15 [(2, .int .i64 (fstE l))] a ∧ IsW w0 w) := by
  refine T3.block (id' := 1) (c := (sel [1, 0, 1, 4, 4, 1, 1, 0, 4] fiP)) (by decide) ?_
  refine T3.seq (s := (sel [1, 0, 1, 4, 4, 1, 1, 0, 4, 0] fiP)) (c := (sel [1, 0, 1, 4, 4, 1, 1, 0, 4, 1] fiP)) ((fi3 w0 va l h k).noX) ?_
  refine T3.test (s := (sel [1, 0, 1, 4, 4, 1, 1, 0, 4, 1, 0] fiP)) (x := (sel [1, 0, 1, 4, 4, 1, 1, 0, 4, 1, 1, 2] fiP)) (y := .skip) (C := fun q => (((0 ≤ k ∧ k < l.length) ∧ NoErr (geti l) k) ∧ q = (geti l k != 0))) (W := fun w => IsW w0 w) (by decide) ((fi4 w0 va l h k).noX) ?_ (T3.skip ?_)
  · refine T3.seq (s := (sel [1, 0, 1, 4, 4, 1, 1, 0, 4, 1, 1, 2, 0] fiP)) (c := .ret) (t3_seqx (p := ((0 ≤ k ∧ k < l.length) ∧ NoErr (geti l) k) ∧ geti l k ≠ 0) ((fi5 w0 va l h k).noX) ?_) (T3.ret ?_)
    · rintro a w ⟨hF, ⟨hk, hq⟩, hW⟩
      exact ⟨⟨hk, by have := hq.symm; simpa using this⟩, hW, hF.tail⟩
    · rintro a w ⟨⟨hk, hne⟩, hW, hF⟩
      have e : fstE l = geti l k := firstErr_hit hk.2 hk.1.1 hk.1.2 hne
      exact ⟨by rw [e]; exact hF, hW⟩
  · rintro a w ⟨⟨hk, hq⟩, hW, hF⟩
    exact ⟨⟨hk.1, hk.2.step (by have := hq.symm; simpa using this)⟩, hW, hF.sub (by simp)⟩

def fiI (w0 : World) (va : Value) (l : List Int) (h : EsH w0 va l) (k : Int) (a : Act) (w : World) : Prop := (0 ≤ k ∧ k ≤ l.length) ∧ (NoErr (geti l) k) ∧ (IsW w0 w) ∧ Fr 15 [(5, va), (6, .int .i64 l.length), (7, .int .i64 k)] a
set_option maxRecDepth 100000 in
set_option maxHeartbeats 1000000 in
theorem fit (w0 : World) (va : Value) (l : List Int) (h : EsH w0 va l) (k : Int) : T3 Try.prog (fun a w => fiI w0 va l h k a w) (sel [1, 0, 1, 4, 4, 0] fiP) (fun a w => ∃ q, Fr 15 ((8, .bool q) :: [(7, .int .i64 k)]) a ∧ ((q = true ↔ k < l.length) ∧ fiI w0 va l h k a w)) No 9 (fun a w => Fr 15 [(2, .int .i64 (fstE l))] a ∧ IsW w0 w) := by
  refine T3.leaf ?_
  rintro Q JS JX JT K hS hK hX hE hT hR a w ⟨hk, hpre, hW, ⟨fr, rfl, q5, q6, q7, _⟩⟩
  have hln := h.n
  rw [fr_fiP, show fr 5 = _ from q5, show fr 6 = _ from q6, show fr 7 = _ from q7]
  clear q5 q6 q7
  conv => arg 2; whnf
  by_cases hlt : k < l.length
  · go_wp2_with fail
    refine Met.intro (hS _ _ ?_)
    exact ⟨true, Fr.of _ rfl ⟨rfl, rfl, trivial⟩, ⟨fun _ => hlt, fun _ => rfl⟩, hk, hpre, hW, Fr.of _ rfl ⟨rfl, rfl, rfl, trivial⟩⟩
  · have hpb : decide (k < (l.length : Int)) = false := by simp; omega
    go_wp2_with fail
    refine Met.intro (hS _ _ ?_)
    exact ⟨false, Fr.of _ rfl ⟨rfl, rfl, trivial⟩, ⟨(fun h => by cases h), fun h => absurd h (by omega)⟩, hk, hpre, hW, Fr.of _ rfl ⟨rfl, rfl, rfl, trivial⟩⟩

set_option maxRecDepth 100000 in
set_option maxHeartbeats 1000000 in
theorem fin (w0 : World) (va : Value) (l : List Int) (h : EsH w0 va l) (k : Int) : T3 Try.prog (fun a w => (0 ≤ k ∧ k < l.length) ∧ (NoErr (geti l) (k + 1)) ∧ (IsW w0 w) ∧ Fr 15 [(5, va), (6, .int .i64 l.length), (7, .int .i64 k)] a) (sel [1, 0, 1, 4, 4, 1, 1, 1] fiP) (fun a w => fiI w0 va l h (k + 1) a w) No 9 (fun a w => Fr 15 [(2, .int .i64 (fstE l))] a ∧ IsW w0 w) := by
  refine T3.leaf ?_
  rintro Q JS JX JT K hS hK hX hE hT hR a w ⟨hk, hpre, hW, ⟨fr, rfl, q5, q6, q7, _⟩⟩
  obtain ⟨hk0, hk1⟩ := hk
  have hln := h.n
  rw [fr_fiP, show fr 5 = _ from q5, show fr 6 = _ from q6, show fr 7 = _ from q7]
  clear q5 q6 q7
  conv => arg 2; whnf
  go_wp2_with fail
  refine Met.intro (hS _ _ ?_)
  exact ⟨⟨by omega, by omega⟩, hpre, hW, Fr.of _ rfl ⟨rfl, rfl, rfl, trivial⟩⟩

set_option maxRecDepth 100000 in
set_option maxHeartbeats 1000000 in
theorem filoop (w0 : World) (va : Value) (l : List Int) (h : EsH w0 va l) : T3 Try.prog (fun a w => fiI w0 va l h 0 a w) (sel [1, 0, 1] fiP) (fun a w => (NoErr (geti l) l.length) ∧ (IsW w0 w) ∧ Fr 15 [] a) No 9 (fun a w => Fr 15 [(2, .int .i64 (fstE l))] a ∧ IsW w0 w) := by
  refine T3.loop (c := (sel [1, 0, 1, 4, 4] fiP)) (fun ng_ a w => ∃ k : Int, (ng_ : Int) = l.length - k ∧ fiI w0 va l h k a w) (fun a w h => ⟨(l.length : Int).toNat, 0, by have := h.1.2; omega, h⟩) (fun ng_ => T3.ex fun k => T3.pure fun hng_ => ?_)
  refine T3.seq (s := (sel [1, 0, 1, 4, 4, 0] fiP)) (c := (sel [1, 0, 1, 4, 4, 1] fiP)) ((fit w0 va l h k).noX) ?_
  refine T3.seq (s := (sel [1, 0, 1, 4, 4, 1, 0] fiP)) (c := (sel [1, 0, 1, 4, 4, 1, 1] fiP)) (S := fun a w => (0 ≤ k ∧ k < l.length) ∧ (NoErr (geti l) k) ∧ (IsW w0 w) ∧ Fr 15 [(5, va), (6, .int .i64 l.length), (7, .int .i64 k)] a) ?_ (T3.seq (s := (sel [1, 0, 1, 4, 4, 1, 1, 0] fiP)) (c := (sel [1, 0, 1, 4, 4, 1, 1, 1] fiP)) (S := fun a w => (0 ≤ k ∧ k < l.length) ∧ (NoErr (geti l) (k + 1)) ∧ (IsW w0 w) ∧ Fr 15 [(5, va), (6, .int .i64 l.length), (7, .int .i64 k)] a) (T3.noX (T3.mono (R' := fun a w => (0 ≤ k ∧ k < l.length) ∧ (NoErr (geti l) k) ∧ (IsW w0 w) ∧ Fr 15 [(5, va), (6, .int .i64 l.length), (7, .int .i64 k)] a) (S' := fun a w => (0 ≤ k ∧ k < l.length) ∧ (NoErr (geti l) (k + 1)) ∧ (IsW w0 w) ∧ Fr 15 [(5, va), (6, .int .i64 l.length), (7, .int .i64 k)] a) (fib w0 va l h k) (fun a w ⟨hk, hp, hI⟩ => ⟨⟨hk, hp⟩, hI⟩) (fun a w ⟨⟨hk, hp⟩, hI⟩ => ⟨hk, hp, hI⟩) (fun _ _ q => q) (fun _ _ q => q))) ?_)
  · refine T3.cond (o := .tmp 8) (x := .skip) (y := .exit 0) (fun a w => k < l.length ∧ fiI w0 va l h k a w) (fun a w => ¬ k < l.length ∧ fiI w0 va l h k a w) ?_ (T3.skip ?_) (T3.exit ?_)
    · rintro a w ⟨q, hF, hq, hI⟩
      have he := hF.eval 8 (by decide) (v := .bool q) (by simp)
      cases q
      · exact .inr ⟨he, (fun h => by have := hq.2 h; cases this), hI⟩
      · exact .inl ⟨he, hq.1 rfl, hI⟩
    · rintro a w ⟨hlt, hk, hI⟩
      exact ⟨⟨hk.1, hlt⟩, hI⟩
    · rintro a w ⟨hlt, hk, hI⟩
      obtain rfl : k = l.length := by omega
      obtain ⟨hn, hW, hF⟩ := hI
      exact ⟨hn, hW, hF.sub (by simp)⟩
  · intro a w hx
    have hk := hx.1
    exact (((fin w0 va l h k).noX).post (fun a w q => ⟨ng_ - 1, by omega, k + 1, by omega, q⟩)) a w hx
set_option maxRecDepth 100000 in
set_option maxHeartbeats 1000000 in
theorem fi7 (w0 : World) (va : Value) (l : List Int) (h : EsH w0 va l) (hn : NoErr (geti l) l.length) : T3 Try.prog (fun a w => (IsW w0 w) ∧ Fr 15 [] a) (sel [1, 1, 0] fiP) (fun a w => (IsW w0 w) ∧ Fr 15 [(2, .int .i64 0)] a) No 9 (fun a w => Fr 15 [(2, .int .i64 (fstE l))] a ∧ IsW w0 w) := by
  refine T3.leaf ?_
  rintro Q JS JX JT K hS hK hX hE hT hR a w ⟨hW, ⟨fr, rfl, _⟩⟩
  clear hn
  rw [fr_fiP]
  conv => arg 2; whnf
  go_wp2_with fail
  refine Met.intro (hS _ _ ?_)
  exact ⟨hW, Fr.of _ rfl ⟨rfl, trivial⟩⟩

set_option maxRecDepth 100000 in
set_option maxHeartbeats 1000000 in
theorem fi_all (w0 : World) (va : Value) (l : List Int) (h : EsH w0 va l) : T3 Try.prog (fun a w => (IsW w0 w) ∧ Fr 15 [(0, va)] a) fiP No No 9 (fun a w => Fr 15 [(2, .int .i64 (fstE l))] a ∧ IsW w0 w) := by
  refine T3.seq (s := (sel [0] fiP)) (c := (sel [1] fiP)) (fi0 w0 va l h) ?_
  refine T3.seq (s := (sel [1, 0] fiP)) (c := (sel [1, 1] fiP)) (T3.seq (s := (sel [1, 0, 0] fiP)) (c := (sel [1, 0, 1] fiP)) (fi1 w0 va l h) (filoop w0 va l h)) ?_
  refine T3.pure fun hn => ?_
  refine T3.seq (s := (sel [1, 1, 0] fiP)) (c := .ret) (fi7 w0 va l h hn) (T3.ret ?_)
  rintro a w ⟨hW, hF⟩
  have e : fstE l = 0 := firstErr_none hn
  exact ⟨by rw [e]; exact hF, hW⟩

set_option maxRecDepth 100000 in
set_option maxHeartbeats 1000000 in
theorem first_prog2 (w0 : World) (va : Value) (l : List Int) (h : EsH w0 va l) : Calls Try.prog 60 #[va] w0 fun e w' => e = .returned (.int .i64 (fstE l)) ∧ w0 = w' := by
  have hall := fi_all w0 va l h
  go_enter Try.func60, Try.ntmps60
  refine T3.done (s := fiP) hall ⟨rfl, Fr.of _ rfl ⟨rfl, trivial⟩⟩ ?_
  rintro a w ⟨⟨fr, rfl, q2, _⟩, hb⟩
  obtain rfl : w = w0 := hb
  rw [fr_fiP, show fr 2 = _ from q2]
  go_ret
  exact ⟨rfl, rfl⟩
theorem fst2 (x y : Int) : fstE [x, y] = if x ≠ 0 then x else y := by
  unfold fstE
  by_cases hx : x = 0
  · rw [if_neg (by simp [hx])]
    by_cases hy : y = 0
    · subst hx; subst hy; decide
    · exact firstErr_hit (f := geti [x, y]) (n := 2) (i := 1) (fun j h0 h1 => by
      obtain rfl : j = 0 := by omega
      simp [geti, hx]) (by decide) (by decide) (by simp [geti, hy])
  · rw [if_pos hx]
    exact firstErr_hit (f := geti [x, y]) (n := 2) (i := 0) (NoErr.zero _) (by decide) (by decide) (by simp [geti, hx])
theorem es_new (w : World) (x y : Int) (e : TypeId) : EsH (w.alloc (.cells #[.int .i64 x, .int .i64 y] e)) (.slice (some ⟨w.heap.size, 0, none⟩) 2 2) [x, y] := by
  refine ⟨⟨rfl, .inr ⟨_, 0, 2, rfl, Nat.zero_le _, by simp, Nat.le_refl _, by decide, ?_⟩⟩, by simp⟩
  intro i u hi
  match i, hi with
  | 0, hi => cases hi; exact cells_new w _ _ 0 _ rfl
  | 1, hi => cases hi; exact cells_new w _ _ 1 _ rfl
end Go.Proofs.Ytkdimgghljklmaa
/-
  Finals: who wins legs, the program's look. Conditions: at most 1000000 legs; whole numbers are Go's.
-/
set_option linter.unusedVariables false
namespace Go.Proofs.Ytkdimgghljklmaa
open Go.RowKit Go.Bw
def legD (xs ys : List (Int × Int)) (k : Nat) : Int := hund (getp xs k).1 (getp xs k).2 - hund (getp ys k).1 (getp ys k).2
def legS (xs ys : List (Int × Int)) : Nat → Int
  | 0 => 0
  | k + 1 => legS xs ys k + legD xs ys k
def signZ (s : Int) : Int := min 1 (max (-1) s)
def legsF (xs ys : List (Int × Int)) : Int := fstE [legsE xs, legsE ys]
/-- Who wins, and what is wrong. -/
def legsR (xs ys : List (Int × Int)) : Int × Int := if xs.length ≠ ys.length then (0, 3) else if 8 < xs.length then (0, 2) else if legsF xs ys ≠ 0 then (0, legsF xs ys) else (signZ (legS xs ys xs.length), 0)
theorem amount_ok {num den : Int} (h : amountE num den 1000000 = 0) : 1 ≤ den ∧ den ≤ 100 ∧ -1000000000000000 ≤ num ∧ num ≤ 1000000000000000 := by
  unfold amountE at h
  split at h
  · cases h
  · split at h
    · cases h
    · rename_i h1 h2
      have hd : 1 ≤ den := by omega
      have := den_le hd (by omega)
      omega
theorem legsF_zero {xs ys : List (Int × Int)} (h : legsF xs ys = 0) : legsE xs = 0 ∧ legsE ys = 0 := by
  unfold legsF at h
  rw [fst2] at h
  split at h <;> omega
theorem leg_ok {xs : List (Int × Int)} (h : legsE xs = 0) {k : Int} (h0 : 0 ≤ k) (h1 : k < xs.length) : amountE (getp xs k).1 (getp xs k).2 1000000 = 0 := firstErr_zero h k h0 h1
theorem hund_b {num den : Int} (h : amountE num den 1000000 = 0) : -100000000000000000 ≤ hund num den ∧ hund num den ≤ 100000000000000000 := by
  obtain ⟨h1, h2, h3, h4⟩ := amount_ok h
  have hq0 : 0 ≤ 100 / den := Int.ediv_nonneg (by decide) (by omega)
  have hq1 : 100 / den ≤ 100 := Int.ediv_le_self _ (by decide)
  exact mul_small num (100 / den) h3 h4 hq0 hq1
theorem legS_b {xs ys : List (Int × Int)} (h : legsF xs ys = 0) (hl : xs.length = ys.length) : ∀ k : Nat, k ≤ xs.length → -200000000000000000 * (k : Int) ≤ legS xs ys k ∧ legS xs ys k ≤ 200000000000000000 * (k : Int)
  | 0, _ => ⟨by simp [legS], by simp [legS]⟩
  | k + 1, hk => by
    obtain ⟨hx, hy⟩ := legsF_zero h
    have ih := legS_b h hl k (by omega)
    have a := hund_b (leg_ok hx (k := k) (by omega) (by omega))
    have b := hund_b (leg_ok hy (k := k) (by omega) (by omega))
    have e1 : legS xs ys (k + 1) = legS xs ys k + legD xs ys k := rfl
    have e2 : legD xs ys k = hund (getp xs k).1 (getp xs k).2 - hund (getp ys k).1 (getp ys k).2 := rfl
    omega
noncomputable def lgP : Code := (Try.f29.body).getD .skip
set_option maxRecDepth 100000 in
theorem fr_lgP (f : Nat → Value) : frame 50 f = ⟨#[f 0, f 1, f 2, f 3, f 4, f 5, f 6, f 7, f 8, f 9, f 10, f 11, f 12, f 13, f 14, f 15, f 16, f 17, f 18, f 19, f 20, f 21, f 22, f 23, f 24, f 25, f 26, f 27, f 28, f 29, f 30, f 31, f 32, f 33, f 34, f 35, f 36, f 37, f 38, f 39, f 40, f 41, f 42, f 43, f 44, f 45, f 46, f 47, f 48, f 49], []⟩ := by rfl
set_option maxRecDepth 100000 in
set_option maxHeartbeats 1000000 in
theorem lg0 (w0 : World) (va vb : Value) (xs ys : List (Int × Int)) (ha : LgH w0 va xs) (hb : LgH w0 vb ys) : T3 Try.prog (fun a w => (Below w0.heap.size w0 w) ∧ Fr 50 [(0, va), (1, vb)] a) (sel [0] lgP) (fun a w => (Below w0.heap.size w0 w) ∧ Fr 50 [(0, va), (1, vb)] a) No 9 (fun a w => Fr 50 [(4, .int .i64 (legsR xs ys).1), (5, .int .i64 (legsR xs ys).2)] a ∧ Below w0.heap.size w0 w) := by
  refine T3.leaf ?_
  rintro Q JS JX JT K hS hK hX hE hT hR a w ⟨hW, ⟨fr, rfl, q0, q1, _⟩⟩
  have HW := Lib.hid hW
  have hxn := ha.n
  have hyn := hb.n
  obtain ⟨p1, c1, hv1⟩ := ha.r.shape
  subst hv1
  obtain ⟨p2, c2, hv2⟩ := hb.r.shape
  subst hv2
  clear hW
  rw [fr_lgP, show fr 0 = _ from q0, show fr 1 = _ from q1]
  clear q0 q1
  conv => arg 2; whnf
  go_wp2_with fail
  refine Met.intro (hS _ _ ?_)
  exact ⟨HW.out, Fr.of _ rfl ⟨rfl, rfl, trivial⟩⟩

set_option maxRecDepth 100000 in
set_option maxHeartbeats 1000000 in
theorem lg1 (w0 : World) (va vb : Value) (xs ys : List (Int × Int)) (ha : LgH w0 va xs) (hb : LgH w0 vb ys) : T3 Try.prog (fun a w => (Below w0.heap.size w0 w) ∧ Fr 50 [(0, va), (1, vb)] a) (sel [1, 0, 4, 0] lgP) (fun a w => ∃ q, Fr 50 ((9, .bool q) :: [(0, va), (1, vb)]) a ∧ ((q = ((xs.length : Int) != (ys.length : Int))) ∧ Below w0.heap.size w0 w)) No 9 (fun a w => Fr 50 [(4, .int .i64 (legsR xs ys).1), (5, .int .i64 (legsR xs ys).2)] a ∧ Below w0.heap.size w0 w) := by
  refine T3.leaf ?_
  rintro Q JS JX JT K hS hK hX hE hT hR a w ⟨hW, ⟨fr, rfl, q0, q1, _⟩⟩
  have HW := Lib.hid hW
  have hxn := ha.n
  have hyn := hb.n
  obtain ⟨p1, c1, hv1⟩ := ha.r.shape
  subst hv1
  obtain ⟨p2, c2, hv2⟩ := hb.r.shape
  subst hv2
  clear hW
  generalize hq : ((xs.length : Int) != (ys.length : Int)) = q at *
  rw [fr_lgP, show fr 0 = _ from q0, show fr 1 = _ from q1]
  clear q0 q1
  conv => arg 2; whnf
  go_wp2_with fail
  refine Met.intro (hS _ _ ?_)
  exact ⟨_, Fr.of _ rfl ⟨rfl, rfl, rfl, trivial⟩, rfl, HW.out⟩

set_option maxRecDepth 100000 in
set_option maxHeartbeats 1000000 in
theorem lg2 (w0 : World) (va vb : Value) (xs ys : List (Int × Int)) (ha : LgH w0 va xs) (hb : LgH w0 vb ys) : T3 Try.prog (fun a w => (Below w0.heap.size w0 w) ∧ Fr 50 [(0, va), (1, vb)] a) (sel [1, 0, 4, 1, 2, 0] lgP) (fun a w => (Below w0.heap.size w0 w) ∧ Fr 50 [(4, .int .i64 0), (5, .int .i64 3)] a) No 9 (fun a w => Fr 50 [(4, .int .i64 (legsR xs ys).1), (5, .int .i64 (legsR xs ys).2)] a ∧ Below w0.heap.size w0 w) := by
  refine T3.leaf ?_
  rintro Q JS JX JT K hS hK hX hE hT hR a w ⟨hW, ⟨fr, rfl, q0, q1, _⟩⟩
  have HW := Lib.hid hW
  have hxn := ha.n
  have hyn := hb.n
  obtain ⟨p1, c1, hv1⟩ := ha.r.shape
  subst hv1
  obtain ⟨p2, c2, hv2⟩ := hb.r.shape
  subst hv2
  clear hW
  rw [fr_lgP, show fr 0 = _ from q0, show fr 1 = _ from q1]
  clear q0 q1
  conv => arg 2; whnf
  go_wp2_with fail
  refine Met.intro (hS _ _ ?_)
  exact ⟨HW.out, Fr.of _ rfl ⟨rfl, rfl, trivial⟩⟩

set_option maxRecDepth 100000 in
set_option maxHeartbeats 1000000 in
theorem lg3 (w0 : World) (va vb : Value) (xs ys : List (Int × Int)) (ha : LgH w0 va xs) (hb : LgH w0 vb ys) : T3 Try.prog (fun a w => (Below w0.heap.size w0 w) ∧ Fr 50 [(0, va), (1, vb)] a) (sel [1, 0, 4, 1, 3, 0] lgP) (fun a w => ∃ q, Fr 50 ((15, .bool q) :: [(0, va), (1, vb)]) a ∧ ((q = decide ((8 : Int) < (xs.length : Int))) ∧ Below w0.heap.size w0 w)) No 9 (fun a w => Fr 50 [(4, .int .i64 (legsR xs ys).1), (5, .int .i64 (legsR xs ys).2)] a ∧ Below w0.heap.size w0 w) := by
  refine T3.leaf ?_
  rintro Q JS JX JT K hS hK hX hE hT hR a w ⟨hW, ⟨fr, rfl, q0, q1, _⟩⟩
  have HW := Lib.hid hW
  have hxn := ha.n
  have hyn := hb.n
  obtain ⟨p1, c1, hv1⟩ := ha.r.shape
  subst hv1
  obtain ⟨p2, c2, hv2⟩ := hb.r.shape
  subst hv2
  clear hW
  rw [fr_lgP, show fr 0 = _ from q0, show fr 1 = _ from q1]
  clear q0 q1
  conv => arg 2; whnf
  go_wp2_with fail
  refine Met.intro (hS _ _ ?_)
  exact ⟨_, Fr.of _ rfl ⟨rfl, rfl, rfl, trivial⟩, rfl, HW.out⟩

set_option maxRecDepth 100000 in
set_option maxHeartbeats 1000000 in
theorem lg4 (w0 : World) (va vb : Value) (xs ys : List (Int × Int)) (ha : LgH w0 va xs) (hb : LgH w0 vb ys) : T3 Try.prog (fun a w => (Below w0.heap.size w0 w) ∧ Fr 50 [(0, va), (1, vb)] a) (sel [1, 0, 4, 1, 3, 1, 2, 0] lgP) (fun a w => (Below w0.heap.size w0 w) ∧ Fr 50 [(4, .int .i64 0), (5, .int .i64 2)] a) No 9 (fun a w => Fr 50 [(4, .int .i64 (legsR xs ys).1), (5, .int .i64 (legsR xs ys).2)] a ∧ Below w0.heap.size w0 w) := by
  refine T3.leaf ?_
  rintro Q JS JX JT K hS hK hX hE hT hR a w ⟨hW, ⟨fr, rfl, q0, q1, _⟩⟩
  have HW := Lib.hid hW
  have hxn := ha.n
  have hyn := hb.n
  obtain ⟨p1, c1, hv1⟩ := ha.r.shape
  subst hv1
  obtain ⟨p2, c2, hv2⟩ := hb.r.shape
  subst hv2
  clear hW
  rw [fr_lgP, show fr 0 = _ from q0, show fr 1 = _ from q1]
  clear q0 q1
  conv => arg 2; whnf
  go_wp2_with fail
  refine Met.intro (hS _ _ ?_)
  exact ⟨HW.out, Fr.of _ rfl ⟨rfl, rfl, trivial⟩⟩

set_option maxRecDepth 100000 in
set_option maxHeartbeats 1000000 in
theorem lg5 (w0 : World) (va vb : Value) (xs ys : List (Int × Int)) (ha : LgH w0 va xs) (hb : LgH w0 vb ys) : T3 Try.prog (fun a w => (Below w0.heap.size w0 w) ∧ Fr 50 [(0, va), (1, vb)] a) (sel [1, 1, 0, 0] lgP) (fun a w => (Below w0.heap.size w0 w) ∧ Fr 50 [(0, va), (1, vb), (6, .int .i64 (legsF xs ys))] a) No 9 (fun a w => Fr 50 [(4, .int .i64 (legsR xs ys).1), (5, .int .i64 (legsR xs ys).2)] a ∧ Below w0.heap.size w0 w) := by
  refine T3.leaf ?_
  rintro Q JS JX JT K hS hK hX hE hT hR a w ⟨hW, ⟨fr, rfl, q0, q1, _⟩⟩
  have HA := Lib.hid (legsFault_prog w va xs (ha.below (hW.mono (Nat.le_refl _))))
  have HB := Lib.hid (fun w' (b : Below w.heap.size w w') => legsFault_prog w' vb ys ((hb.below hW).below b))
  have HN := Lib.hid (fun w' x y => first_prog2 _ _ [x, y] (es_new w' x y 33))
  have HF := Lib.hid (show fstE [legsE xs, legsE ys] = legsF xs ys from rfl)
  have HW := Lib.hid hW
  have hxn := ha.n
  have hyn := hb.n
  obtain ⟨p1, c1, hv1⟩ := ha.r.shape
  subst hv1
  obtain ⟨p2, c2, hv2⟩ := hb.r.shape
  subst hv2
  clear hW
  generalize legsF xs ys = ff at *
  generalize legsE xs = e1 at *
  generalize legsE ys = e2 at *
  rw [fr_lgP, show fr 0 = _ from q0, show fr 1 = _ from q1]
  clear q0 q1
  conv => arg 2; whnf
  go_wp2_with fail
  refine HA.out.mono ?_
  rintro e w1 ⟨rfl, hb1⟩
  have HB1 := Lib.hid hb1
  clear hb1
  go_wp2_with fail
  refine (HB.out w1 HB1.out).mono ?_
  rintro e w2 ⟨rfl, hb2⟩
  have HB2 := Lib.hid (HB1.out.trans (hb2.mono HB1.out.size))
  clear hb2
  go_wp2_with fail
  refine (HN.out w2 e1 e2).mono ?_
  rintro e w3 ⟨rfl, rfl⟩
  rw [HF.out]
  have HR := Lib.hid (HW.out.trans (HB2.out.mono HW.out.size))
  go_wp2_with fail
  refine Met.intro (hS _ _ ?_)
  exact ⟨HR.out.alloc HR.out.size _, Fr.of _ rfl ⟨rfl, rfl, rfl, trivial⟩⟩

set_option maxRecDepth 100000 in
set_option maxHeartbeats 1000000 in
theorem lg6 (w0 : World) (va vb : Value) (xs ys : List (Int × Int)) (ha : LgH w0 va xs) (hb : LgH w0 vb ys) : T3 Try.prog (fun a w => (Below w0.heap.size w0 w) ∧ Fr 50 [(0, va), (1, vb), (6, .int .i64 (legsF xs ys))] a) (sel [1, 1, 0, 1, 0] lgP) (fun a w => ∃ q, Fr 50 ((26, .bool q) :: [(0, va), (1, vb), (6, .int .i64 (legsF xs ys))]) a ∧ ((q = (legsF xs ys != 0)) ∧ Below w0.heap.size w0 w)) No 9 (fun a w => Fr 50 [(4, .int .i64 (legsR xs ys).1), (5, .int .i64 (legsR xs ys).2)] a ∧ Below w0.heap.size w0 w) := by
  refine T3.leaf ?_
  rintro Q JS JX JT K hS hK hX hE hT hR a w ⟨hW, ⟨fr, rfl, q0, q1, q6, _⟩⟩
  have HW := Lib.hid hW
  have hxn := ha.n
  have hyn := hb.n
  obtain ⟨p1, c1, hv1⟩ := ha.r.shape
  subst hv1
  obtain ⟨p2, c2, hv2⟩ := hb.r.shape
  subst hv2
  clear hW
  generalize legsF xs ys = ff at *
  rw [fr_lgP, show fr 0 = _ from q0, show fr 1 = _ from q1, show fr 6 = _ from q6]
  clear q0 q1 q6
  conv => arg 2; whnf
  go_wp2_with fail
  refine Met.intro (hS _ _ ?_)
  exact ⟨_, Fr.of _ rfl ⟨rfl, rfl, rfl, rfl, trivial⟩, rfl, HW.out⟩

set_option maxRecDepth 100000 in
set_option maxHeartbeats 1000000 in
theorem lg7 (w0 : World) (va vb : Value) (xs ys : List (Int × Int)) (ha : LgH w0 va xs) (hb : LgH w0 vb ys) : T3 Try.prog (fun a w => (Below w0.heap.size w0 w) ∧ Fr 50 [(0, va), (1, vb), (6, .int .i64 (legsF xs ys))] a) (sel [1, 1, 0, 1, 1, 2, 0] lgP) (fun a w => (Below w0.heap.size w0 w) ∧ Fr 50 [(4, .int .i64 0), (5, .int .i64 (legsF xs ys))] a) No 9 (fun a w => Fr 50 [(4, .int .i64 (legsR xs ys).1), (5, .int .i64 (legsR xs ys).2)] a ∧ Below w0.heap.size w0 w) := by
  refine T3.leaf ?_
  rintro Q JS JX JT K hS hK hX hE hT hR a w ⟨hW, ⟨fr, rfl, q0, q1, q6, _⟩⟩
  have HW := Lib.hid hW
  have hxn := ha.n
  have hyn := hb.n
  obtain ⟨p1, c1, hv1⟩ := ha.r.shape
  subst hv1
  obtain ⟨p2, c2, hv2⟩ := hb.r.shape
  subst hv2
  clear hW
  generalize legsF xs ys = ff at *
  rw [fr_lgP, show fr 0 = _ from q0, show fr 1 = _ from q1, show fr 6 = _ from q6]
  clear q0 q1 q6
  conv => arg 2; whnf
  go_wp2_with fail
  refine Met.intro (hS _ _ ?_)
  exact ⟨HW.out, Fr.of _ rfl ⟨rfl, rfl, trivial⟩⟩

set_option maxRecDepth 100000 in
set_option maxHeartbeats 1000000 in
theorem lg8 (w0 : World) (va vb : Value) (xs ys : List (Int × Int)) (ha : LgH w0 va xs) (hb : LgH w0 vb ys) : T3 Try.prog (fun a w => (Below w0.heap.size w0 w) ∧ Fr 50 [(0, va), (1, vb)] a) (sel [1, 1, 1, 0] lgP) (fun a w => (Below w0.heap.size w0 w) ∧ Fr 50 [(0, va), (1, vb), (7, .int .i64 0)] a) No 9 (fun a w => Fr 50 [(4, .int .i64 (legsR xs ys).1), (5, .int .i64 (legsR xs ys).2)] a ∧ Below w0.heap.size w0 w) := by
  refine T3.leaf ?_
  rintro Q JS JX JT K hS hK hX hE hT hR a w ⟨hW, ⟨fr, rfl, q0, q1, _⟩⟩
  have HW := Lib.hid hW
  have hxn := ha.n
  have hyn := hb.n
  obtain ⟨p1, c1, hv1⟩ := ha.r.shape
  subst hv1
  obtain ⟨p2, c2, hv2⟩ := hb.r.shape
  subst hv2
  clear hW
  rw [fr_lgP, show fr 0 = _ from q0, show fr 1 = _ from q1]
  clear q0 q1
  conv => arg 2; whnf
  go_wp2_with fail
  refine Met.intro (hS _ _ ?_)
  exact ⟨HW.out, Fr.of _ rfl ⟨rfl, rfl, rfl, trivial⟩⟩

end Go.Proofs.Ytkdimgghljklmaa
/-
  Finals: who wins legs, the program's Legs as a contract. Conditions: at most 1000000 legs; whole numbers are Go's.
-/
set_option linter.unusedVariables false
namespace Go.Proofs.Ytkdimgghljklmaa
open Go.RowKit Go.Bw
set_option maxRecDepth 100000 in
set_option maxHeartbeats 1000000 in
theorem lg9 (w0 : World) (va vb : Value) (xs ys : List (Int × Int)) (ha : LgH w0 va xs) (hb : LgH w0 vb ys) (hl : Hid (xs.length = ys.length)) (h8 : xs.length ≤ 8) (hz : Hid (legsF xs ys = 0)) : T3 Try.prog (fun a w => (Below w0.heap.size w0 w) ∧ Fr 50 [(0, va), (1, vb), (7, .int .i64 0)] a) (sel [1, 1, 1, 1, 0, 0] lgP) (fun a w => (0 ≤ (0 : Int) ∧ (0 : Int) ≤ xs.length) ∧ (Below w0.heap.size w0 w) ∧ Fr 50 [(0, va), (1, vb), (7, .int .i64 (legS xs ys (0 : Int).toNat)), (28, va), (29, .int .i64 xs.length), (30, .int .i64 0)] a) No 9 (fun a w => Fr 50 [(4, .int .i64 (legsR xs ys).1), (5, .int .i64 (legsR xs ys).2)] a ∧ Below w0.heap.size w0 w) := by
  refine T3.leaf ?_
  rintro Q JS JX JT K hS hK hX hE hT hR a w ⟨hW, ⟨fr, rfl, q0, q1, q7, _⟩⟩
  have HW := Lib.hid hW
  have hxn := ha.n
  have hyn := hb.n
  obtain ⟨p1, c1, hv1⟩ := ha.r.shape
  subst hv1
  obtain ⟨p2, c2, hv2⟩ := hb.r.shape
  subst hv2
  clear hW
  rw [fr_lgP, show fr 0 = _ from q0, show fr 1 = _ from q1, show fr 7 = _ from q7]
  clear q0 q1 q7
  conv => arg 2; whnf
  go_wp2_with fail
  refine Met.intro (hS _ _ ?_)
  exact ⟨⟨by omega, by omega⟩, HW.out, Fr.of _ rfl ⟨rfl, rfl, rfl, rfl, rfl, rfl, trivial⟩⟩

set_option maxRecDepth 100000 in
set_option maxHeartbeats 1000000 in
theorem lg11 (w0 : World) (va vb : Value) (xs ys : List (Int × Int)) (ha : LgH w0 va xs) (hb : LgH w0 vb ys) (hl : Hid (xs.length = ys.length)) (h8 : xs.length ≤ 8) (hz : Hid (legsF xs ys = 0)) (k : Int) : T3 Try.prog (fun a w => (0 ≤ k ∧ k < xs.length) ∧ (Below w0.heap.size w0 w) ∧ Fr 50 [(0, va), (1, vb), (7, .int .i64 (legS xs ys (k : Int).toNat)), (28, va), (29, .int .i64 xs.length), (30, .int .i64 k)] a) (sel [1, 1, 1, 1, 0, 1, 4, 4, 1, 1, 0, 4, 0] lgP) (fun a w => (0 ≤ k ∧ k < xs.length) ∧ (Below w0.heap.size w0 w) ∧ Fr 50 [(0, va), (1, vb), (7, .int .i64 (legS xs ys (k : Int).toNat)), (8, .int .i64 k), (28, va), (29, .int .i64 xs.length), (30, .int .i64 k)] a) No 9 (fun a w => Fr 50 [(4, .int .i64 (legsR xs ys).1), (5, .int .i64 (legsR xs ys).2)] a ∧ Below w0.heap.size w0 w) := by
  refine T3.leaf ?_
  rintro Q JS JX JT K hS hK hX hE hT hR a w ⟨hpre, hW, ⟨fr, rfl, q0, q1, q7, q28, q29, q30, _⟩⟩
  have hpp := Lib.hid hpre
  have HW := Lib.hid hW
  have hxn := ha.n
  have hyn := hb.n
  obtain ⟨p1, c1, hv1⟩ := ha.r.shape
  subst hv1
  obtain ⟨p2, c2, hv2⟩ := hb.r.shape
  subst hv2
  clear hW
  generalize legS xs ys k.toNat = ss at *
  rw [fr_lgP, show fr 0 = _ from q0, show fr 1 = _ from q1, show fr 7 = _ from q7, show fr 28 = _ from q28, show fr 29 = _ from q29, show fr 30 = _ from q30]
  clear q0 q1 q7 q28 q29 q30
  conv => arg 2; whnf
  go_wp2_with fail
  refine Met.intro (hS _ _ ?_)
  exact ⟨hpp.out, HW.out, Fr.of _ rfl ⟨rfl, rfl, rfl, rfl, rfl, rfl, rfl, trivial⟩⟩

set_option maxRecDepth 100000 in
set_option maxHeartbeats 1000000 in
theorem lg12 (w0 : World) (va vb : Value) (xs ys : List (Int × Int)) (ha : LgH w0 va xs) (hb : LgH w0 vb ys) (hl : Hid (xs.length = ys.length)) (h8 : xs.length ≤ 8) (hz : Hid (legsF xs ys = 0)) (k : Int) : T3 Try.prog (fun a w => (0 ≤ k ∧ k < xs.length) ∧ (Below w0.heap.size w0 w) ∧ Fr 50 [(0, va), (1, vb), (7, .int .i64 (legS xs ys (k : Int).toNat)), (8, .int .i64 k), (28, va), (29, .int .i64 xs.length), (30, .int .i64 k)] a) (sel [1, 1, 1, 1, 0, 1, 4, 4, 1, 1, 0, 4, 1] lgP) (fun a w => (0 ≤ k ∧ k < xs.length) ∧ (Below w0.heap.size w0 w) ∧ Fr 50 [(0, va), (1, vb), (7, .int .i64 (legS xs ys ((k + 1) : Int).toNat)), (28, va), (29, .int .i64 xs.length), (30, .int .i64 k)] a) No 9 (fun a w => Fr 50 [(4, .int .i64 (legsR xs ys).1), (5, .int .i64 (legsR xs ys).2)] a ∧ Below w0.heap.size w0 w) := by
  refine T3.leafN ?_
  rintro JS hS a w ⟨hpre, hW, ⟨fr, rfl, q0, q1, q7, q8, q28, q29, q30, _⟩⟩
  have hpp := Lib.hid hpre
  obtain ⟨hk0, hk1⟩ := hpre
  have HW := Lib.hid (hW.trans ((below_drewN (Below.refl w.heap.size w) 1).mono hW.size))
  have hlo := hl.out
  obtain ⟨hzx, hzy⟩ := legsF_zero hz.out
  have a1 := amount_ok (leg_ok hzx hk0 hk1)
  have a2 := amount_ok (leg_ok hzy hk0 (by omega))
  have b1 := hund_b (leg_ok hzx hk0 hk1)
  have b2 := hund_b (leg_ok hzy hk0 (by omega))
  have bs := legS_b hz.out hl.out k.toNat (by omega)
  have HC1 := Lib.hid (fun w => hundredths_prog (getp xs k).1 (getp xs k).2 w a1.2.2.1 a1.2.2.2 a1.1 (by omega))
  have HC2 := Lib.hid (fun w => hundredths_prog (getp ys k).1 (getp ys k).2 w a2.2.2.1 a2.2.2.2 a2.1 (by omega))
  have HS := Lib.hid (show legS xs ys (k + 1).toNat = legS xs ys k.toNat + (hund (getp xs k).1 (getp xs k).2 - hund (getp ys k).1 (getp ys k).2) by
    rw [show (k + 1).toNat = k.toNat + 1 by omega]
    show legS xs ys k.toNat + legD xs ys k.toNat = _
    unfold legD
    rw [Int.toNat_of_nonneg hk0])
  have hxn := ha.n
  have hyn := hb.n
  obtain ⟨_, hca⟩ := row_pairs (ha.r.below hW)
  obtain ⟨_, hcb⟩ := row_pairs (hb.r.below hW)
  rcases hca with ⟨rfl, h0⟩ | ⟨bz, off, cap, rfl, _, hbz, hnc, hcm, hcell⟩
  · omega
  rcases hcb with ⟨rfl, h0⟩ | ⟨by_, off', cap', rfl, _, hbz', hnc', hcm', hcell'⟩
  · omega
  obtain ⟨t0, t1⟩ := hcell k hk0 hk1
  obtain ⟨u0, u1⟩ := hcell' k hk0 (by omega)
  have hk2 : k < ys.length := by omega
  have hk8 : k < 8 := by omega
  have hs1 : -2000000000000000000 ≤ legS xs ys k.toNat ∧ legS xs ys k.toNat ≤ 2000000000000000000 := by omega
  clear hcell hcell' hW a1 a2 bs hzx hzy hlo hl hz
  generalize legS xs ys k.toNat = ss at *
  generalize legS xs ys (k + 1).toNat = ss1 at *
  generalize hund (getp xs k).1 (getp xs k).2 = hx at *
  generalize hund (getp ys k).1 (getp ys k).2 = hy at *
  generalize (getp xs k).1 = xn at *
  generalize (getp xs k).2 = xd at *
  generalize (getp ys k).1 = yn at *
  generalize (getp ys k).2 = yd at *
  have e1 : IntKind.i64.wrap (hx - hy) = hx - hy := IntWalk.i64_in _ (by omega)
  have e2 : IntKind.i64.wrap (ss + (hx - hy)) = ss + (hx - hy) := IntWalk.i64_in _ (by omega)
  rw [fr_lgP, show fr 0 = _ from q0, show fr 1 = _ from q1, show fr 7 = _ from q7, show fr 8 = _ from q8, show fr 28 = _ from q28, show fr 29 = _ from q29, show fr 30 = _ from q30]
  clear q0 q1 q7 q8 q28 q29 q30
  conv => arg 2; whnf
  refine wp_region_mix (none) [(true, 0), (true, 1), (true, 2), (true, 6), (true, 7), (true, 3), (true, 8), (true, 4), (true, 9), (false, 5), (false, 10), (true, 11), (true, 12), (true, 13)] (by kernel_rfl) (by kernel_rfl) (by intro c a d v w h; cases d <;> exact h) ?_
  simp only [pickFlat, List.filterMap_cons, List.filterMap_nil, List.getElem?_cons_succ, List.getElem?_cons_zero, Option.map_some]
  have A0 := wof_at (w₁ := w.drew) (row := none) (a := ⟨bz, off + k.toNat * 2, none⟩) t0 (by simp)
  have A1 := wof_at (w₁ := w.drew) (row := none) (a := ⟨bz, off + k.toNat * 2 + 1, none⟩) t1 (by simp)
  have A2 := wof_at (w₁ := w.drew) (row := none) (a := ⟨by_, off' + k.toNat * 2, none⟩) u0 (by simp)
  have A3 := wof_at (w₁ := w.drew) (row := none) (a := ⟨by_, off' + k.toNat * 2 + 1, none⟩) u1 (by simp)
  refine flat_hide (fun W hH hC hN hE => ?_)
  iterate 9 (refine hH.out _ _ _ _ (fun K hK => ?_); go_simp; refine hK _ ?_; clear hK K)
  refine hC.out _ _ _ _ (by first | rfl | go_simp) (fun K hK => ?_)
  simp only [bare]
  go_wp2_with fail
  refine (HC1.out w.drew).mono ?_
  rintro e w2 ⟨rfl, hb2⟩
  go_wp2_with fail
  refine hK.out _ _ (grown_of_below hb2) ?_
  clear hK K
  refine hC.out _ _ _ _ (by first | rfl | go_simp) (fun K hK => ?_)
  simp only [bare]
  go_wp2_with fail
  refine (HC2.out w2).mono ?_
  rintro e w3 ⟨rfl, hb3⟩
  have hb23 := hb2.trans (hb3.mono hb2.size)
  go_wp2_with fail
  refine hK.out _ _ (grown_of_below hb23) ?_
  clear hK K
  iterate 3 (refine hH.out _ _ _ _ (fun K hK => ?_); go_simp; refine hK _ ?_; clear hK K)
  refine hE.out _ _ ?_
  clear hH hC hN hE W
  show JS _ _
  refine hS _ _ ?_
  refine ⟨hpp.out, HW.out.trans (hb23.mono HW.out.size), ?_⟩
  rw [HS.out]
  exact Fr.of _ rfl ⟨rfl, rfl, rfl, rfl, rfl, rfl, trivial⟩

set_option maxRecDepth 100000 in
set_option maxHeartbeats 1000000 in
theorem lgb (w0 : World) (va vb : Value) (xs ys : List (Int × Int)) (ha : LgH w0 va xs) (hb : LgH w0 vb ys) (hl : Hid (xs.length = ys.length)) (h8 : xs.length ≤ 8) (hz : Hid (legsF xs ys = 0)) (k : Int) : T3 Try.prog (fun a w => (0 ≤ k ∧ k < xs.length) ∧ (Below w0.heap.size w0 w) ∧ Fr 50 [(0, va), (1, vb), (7, .int .i64 (legS xs ys (k : Int).toNat)), (28, va), (29, .int .i64 xs.length), (30, .int .i64 k)] a) (sel [1, 1, 1, 1, 0, 1, 4, 4, 1, 1, 0] lgP) (fun a w => (0 ≤ k ∧ k < xs.length) ∧ (Below w0.heap.size w0 w) ∧ Fr 50 [(0, va), (1, vb), (7, .int .i64 (legS xs ys ((k + 1) : Int).toNat)), (28, va), (29, .int .i64 xs.length), (30, .int .i64 k)] a) No 100 (fun a w => Fr 50 [(4, .int .i64 (legsR xs ys).1), (5, .int .i64 (legsR xs ys).2)] a ∧ Below w0.heap.size w0 w) := by
  refine T3.block (id' := 2) (c := (sel [1, 1, 1, 1, 0, 1, 4, 4, 1, 1, 0, 4] lgP)) (by decide) ?_
  exact T3.seq (s := (sel [1, 1, 1, 1, 0, 1, 4, 4, 1, 1, 0, 4, 0] lgP)) (c := (sel [1, 1, 1, 1, 0, 1, 4, 4, 1, 1, 0, 4, 1] lgP)) ((lg11 w0 va vb xs ys ha hb hl h8 hz k).noX) ((lg12 w0 va vb xs ys ha hb hl h8 hz k).noX)

def lgI (w0 : World) (va vb : Value) (xs ys : List (Int × Int)) (ha : LgH w0 va xs) (hb : LgH w0 vb ys) (hl : Hid (xs.length = ys.length)) (h8 : xs.length ≤ 8) (hz : Hid (legsF xs ys = 0)) (k : Int) (a : Act) (w : World) : Prop := (0 ≤ k ∧ k ≤ xs.length) ∧ (Below w0.heap.size w0 w) ∧ Fr 50 [(0, va), (1, vb), (7, .int .i64 (legS xs ys (k : Int).toNat)), (28, va), (29, .int .i64 xs.length), (30, .int .i64 k)] a
set_option maxRecDepth 100000 in
set_option maxHeartbeats 1000000 in
theorem lgt (w0 : World) (va vb : Value) (xs ys : List (Int × Int)) (ha : LgH w0 va xs) (hb : LgH w0 vb ys) (hl : Hid (xs.length = ys.length)) (h8 : xs.length ≤ 8) (hz : Hid (legsF xs ys = 0)) (k : Int) : T3 Try.prog (fun a w => lgI w0 va vb xs ys ha hb hl h8 hz k a w) (sel [1, 1, 1, 1, 0, 1, 4, 4, 0] lgP) (fun a w => ∃ q, Fr 50 ((31, .bool q) :: [(30, .int .i64 k)]) a ∧ ((q = true ↔ k < xs.length) ∧ lgI w0 va vb xs ys ha hb hl h8 hz k a w)) No 9 (fun a w => Fr 50 [(4, .int .i64 (legsR xs ys).1), (5, .int .i64 (legsR xs ys).2)] a ∧ Below w0.heap.size w0 w) := by
  refine T3.leaf ?_
  rintro Q JS JX JT K hS hK hX hE hT hR a w ⟨hk, hW, ⟨fr, rfl, q0, q1, q7, q28, q29, q30, _⟩⟩
  rw [fr_lgP, show fr 0 = _ from q0, show fr 1 = _ from q1, show fr 7 = _ from q7, show fr 28 = _ from q28, show fr 29 = _ from q29, show fr 30 = _ from q30]
  clear q0 q1 q7 q28 q29 q30
  conv => arg 2; whnf
  by_cases hlt : k < xs.length
  · go_wp2_with fail
    refine Met.intro (hS _ _ ?_)
    exact ⟨true, Fr.of _ rfl ⟨rfl, rfl, trivial⟩, ⟨fun _ => hlt, fun _ => rfl⟩, hk, hW, Fr.of _ rfl ⟨rfl, rfl, rfl, rfl, rfl, rfl, trivial⟩⟩
  · have hpb : decide (k < (xs.length : Int)) = false := by simp; omega
    go_wp2_with fail
    refine Met.intro (hS _ _ ?_)
    exact ⟨false, Fr.of _ rfl ⟨rfl, rfl, trivial⟩, ⟨(fun h => by cases h), fun h => absurd h (by omega)⟩, hk, hW, Fr.of _ rfl ⟨rfl, rfl, rfl, rfl, rfl, rfl, trivial⟩⟩

set_option maxRecDepth 100000 in
set_option maxHeartbeats 1000000 in
theorem lgn (w0 : World) (va vb : Value) (xs ys : List (Int × Int)) (ha : LgH w0 va xs) (hb : LgH w0 vb ys) (hl : Hid (xs.length = ys.length)) (h8 : xs.length ≤ 8) (hz : Hid (legsF xs ys = 0)) (k : Int) : T3 Try.prog (fun a w => (0 ≤ k ∧ k < xs.length) ∧ (Below w0.heap.size w0 w) ∧ Fr 50 [(0, va), (1, vb), (7, .int .i64 (legS xs ys ((k + 1) : Int).toNat)), (28, va), (29, .int .i64 xs.length), (30, .int .i64 k)] a) (sel [1, 1, 1, 1, 0, 1, 4, 4, 1, 1, 1] lgP) (fun a w => lgI w0 va vb xs ys ha hb hl h8 hz (k + 1) a w) No 9 (fun a w => Fr 50 [(4, .int .i64 (legsR xs ys).1), (5, .int .i64 (legsR xs ys).2)] a ∧ Below w0.heap.size w0 w) := by
  refine T3.leaf ?_
  rintro Q JS JX JT K hS hK hX hE hT hR a w ⟨hk, hW, ⟨fr, rfl, q0, q1, q7, q28, q29, q30, _⟩⟩
  obtain ⟨hk0, hk1⟩ := hk
  rw [fr_lgP, show fr 0 = _ from q0, show fr 1 = _ from q1, show fr 7 = _ from q7, show fr 28 = _ from q28, show fr 29 = _ from q29, show fr 30 = _ from q30]
  clear q0 q1 q7 q28 q29 q30
  conv => arg 2; whnf
  go_wp2_with fail
  refine Met.intro (hS _ _ ?_)
  exact ⟨⟨by omega, by omega⟩, hW, Fr.of _ rfl ⟨rfl, rfl, rfl, rfl, rfl, rfl, trivial⟩⟩

set_option maxRecDepth 100000 in
set_option maxHeartbeats 1000000 in
theorem lgloop (w0 : World) (va vb : Value) (xs ys : List (Int × Int)) (ha : LgH w0 va xs) (hb : LgH w0 vb ys) (hl : Hid (xs.length = ys.length)) (h8 : xs.length ≤ 8) (hz : Hid (legsF xs ys = 0)) : T3 Try.prog (fun a w => lgI w0 va vb xs ys ha hb hl h8 hz 0 a w) (sel [1, 1, 1, 1, 0, 1] lgP) (fun a w => (Below w0.heap.size w0 w) ∧ Fr 50 [(7, .int .i64 (legS xs ys xs.length))] a) No 9 (fun a w => Fr 50 [(4, .int .i64 (legsR xs ys).1), (5, .int .i64 (legsR xs ys).2)] a ∧ Below w0.heap.size w0 w) := by
  refine T3.loop (c := (sel [1, 1, 1, 1, 0, 1, 4, 4] lgP)) (fun ng_ a w => ∃ k : Int, (ng_ : Int) = xs.length - k ∧ lgI w0 va vb xs ys ha hb hl h8 hz k a w) (fun a w h => ⟨(xs.length : Int).toNat, 0, by have := h.1.2; omega, h⟩) (fun ng_ => T3.ex fun k => T3.pure fun hng_ => ?_)
  refine T3.seq (s := (sel [1, 1, 1, 1, 0, 1, 4, 4, 0] lgP)) (c := (sel [1, 1, 1, 1, 0, 1, 4, 4, 1] lgP)) ((lgt w0 va vb xs ys ha hb hl h8 hz k).noX) ?_
  refine T3.seq (s := (sel [1, 1, 1, 1, 0, 1, 4, 4, 1, 0] lgP)) (c := (sel [1, 1, 1, 1, 0, 1, 4, 4, 1, 1] lgP)) (S := fun a w => (0 ≤ k ∧ k < xs.length) ∧ (Below w0.heap.size w0 w) ∧ Fr 50 [(0, va), (1, vb), (7, .int .i64 (legS xs ys (k : Int).toNat)), (28, va), (29, .int .i64 xs.length), (30, .int .i64 k)] a) ?_ (T3.seq (s := (sel [1, 1, 1, 1, 0, 1, 4, 4, 1, 1, 0] lgP)) (c := (sel [1, 1, 1, 1, 0, 1, 4, 4, 1, 1, 1] lgP)) (S := fun a w => (0 ≤ k ∧ k < xs.length) ∧ (Below w0.heap.size w0 w) ∧ Fr 50 [(0, va), (1, vb), (7, .int .i64 (legS xs ys ((k + 1) : Int).toNat)), (28, va), (29, .int .i64 xs.length), (30, .int .i64 k)] a) (T3.noX (lgb w0 va vb xs ys ha hb hl h8 hz k)) ?_)
  · refine T3.cond (o := .tmp 31) (x := .skip) (y := .exit 1) (fun a w => k < xs.length ∧ lgI w0 va vb xs ys ha hb hl h8 hz k a w) (fun a w => ¬ k < xs.length ∧ lgI w0 va vb xs ys ha hb hl h8 hz k a w) ?_ (T3.skip ?_) (T3.exit ?_)
    · rintro a w ⟨q, hF, hq, hI⟩
      have he := hF.eval 31 (by decide) (v := .bool q) (by simp)
      cases q
      · exact .inr ⟨he, (fun h => by have := hq.2 h; cases this), hI⟩
      · exact .inl ⟨he, hq.1 rfl, hI⟩
    · rintro a w ⟨hlt, hk, hI⟩
      exact ⟨⟨hk.1, hlt⟩, hI⟩
    · rintro a w ⟨hlt, hk, hI⟩
      obtain rfl : k = xs.length := by omega
      obtain ⟨hW, hF⟩ := hI
      rw [show ((xs.length : Nat) : Int).toNat = xs.length by omega] at hF
      exact ⟨hW, hF.sub (by simp)⟩
  · intro a w hx
    have hk := hx.1
    exact (((lgn w0 va vb xs ys ha hb hl h8 hz k).noX).post (fun a w q => ⟨ng_ - 1, by omega, k + 1, by omega, q⟩)) a w hx
set_option maxRecDepth 100000 in
set_option maxHeartbeats 1000000 in
theorem lg14 (w0 : World) (va vb : Value) (xs ys : List (Int × Int)) (ha : LgH w0 va xs) (hb : LgH w0 vb ys) (hl : Hid (xs.length = ys.length)) (h8 : xs.length ≤ 8) (hz : Hid (legsF xs ys = 0)) : T3 Try.prog (fun a w => (Below w0.heap.size w0 w) ∧ Fr 50 [(7, .int .i64 (legS xs ys xs.length))] a) (sel [1, 1, 1, 1, 1, 0] lgP) (fun a w => (Below w0.heap.size w0 w) ∧ Fr 50 [(4, .int .i64 (signZ (legS xs ys xs.length))), (5, .int .i64 0)] a) No 9 (fun a w => Fr 50 [(4, .int .i64 (legsR xs ys).1), (5, .int .i64 (legsR xs ys).2)] a ∧ Below w0.heap.size w0 w) := by
  refine T3.leaf ?_
  rintro Q JS JX JT K hS hK hX hE hT hR a w ⟨hW, ⟨fr, rfl, q7, _⟩⟩
  have HW := Lib.hid hW
  clear hW hz hl
  unfold signZ at *
  generalize legS xs ys xs.length = ss at *
  rw [fr_lgP, show fr 7 = _ from q7]
  clear q7
  conv => arg 2; whnf
  go_wp2_with fail
  refine Met.intro (hS _ _ ?_)
  exact ⟨HW.out, Fr.of _ rfl ⟨rfl, rfl, trivial⟩⟩

end Go.Proofs.Ytkdimgghljklmaa
