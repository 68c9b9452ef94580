/-
  Contracts and lemmas towards the statement, of several parts; each part says ahead of it what it holds and under which conditions.
-/
import Derived.Test.YtkdimgghljklmaaMg7
import Derived.Laws.EntriesVeiled
import Derived.Test.YtkdimgghljklmaaMg1
/-
  Lots: all rows of lots, the reference's count, from end to end. Conditions: right weights.
-/
set_option linter.unusedVariables false
namespace Go.Proofs.Ytkdimgghljklmaa
open Go.RowKit Go.Bw
/-- A text that falls through or returns. -/
theorem t3_end {P : Program} {R S T : Rel} {s : Code} {id : Nat} {Q : Exit → Act → World → Prop} {a : Act} {w : World} (h : T3 P R s S No id T) (hR : R a w) (hS : ∀ a w, S a w → Q .normal a w) (hT : ∀ a w, T a w → Q .ret a w) : s.wp P Q a w := by
  refine wp_mono (h a w hR) ?_
  intro e a w q
  cases e with
  | normal => exact hS a w q
  | exit i => exact q.2.elim
  | ret => exact hT a w q
  | goto l => exact q.elim
  | panic ch => exact q.elim
  | outgrown => exact q.elim
/-- The list of all who are placed so far. -/
structure CV (w0 : World) (B : CB) (nt : Nat) (ws : List Int) (vt vw : Value) (top place who : Nat) (good : Int) (v : Value) (H : List Nat) (w : World) : Prop where
  cw : CW w0 B nt ws vt vw top place who good w
  row : Row w 0 1 v H.length ((natsL H).map (.int .i64))
  vb : v.ownBlock ≠ some B.g
theorem frozen_set (w : World) (g : Nat) (u : Value) : (w.setCell ⟨g, 0, none⟩ u).frozen? ⟨g, 0, none⟩ = w.frozen? ⟨g, 0, none⟩ := World.frozen?_setCell _ _ _ _
theorem CW.put {w0 : World} {B : CB} {nt : Nat} {ws : List Int} {vt vw : Value} {top place who : Nat} {good : Int} {w : World} (l : CW w0 B nt ws vt vw top place who good w) (x : Int) : CW w0 B nt ws vt vw top place who x (w.setCell ⟨B.g, 0, none⟩ (.int .i64 x)) :=
  ⟨l.cx.grow (grown_setCell w B.g 0 _) (World.cell?_setCell_same' _ _ _ (by rw [l.cx.cg]; rfl)) ((frozen_set w B.g _).trans l.cx.fg), grown_trans l.gr (grown_setCell w B.g 0 _)⟩
set_option maxRecDepth 100000 in
set_option maxHeartbeats 1000000 in
theorem clb (w0 : World) (B : CB) (nt : Nat) (ws : List Int) (vt vw : Value) (top place who : Nat) (vh : Value) (h : List Nat) (t good : Int) (m : Nat) (c : CC w0 B nt ws vt vw top place who vh h t good (m + 1)) (k : Int) (hrec : ChC m) : T3 Try.prog (fun a w => (0 ≤ k ∧ k < nt) ∧ (CW w0 B nt ws vt vw top place who (good + t * outC ws nt place who m h (k : Int).toNat) w) ∧ Fr 65 [(0, vh), (1, .int .i64 t), (2, .pointer (some ⟨B.t, 0, none⟩)), (3, .pointer (some ⟨B.w, 0, none⟩)), (4, .pointer (some ⟨B.f, 0, none⟩)), (5, .pointer (some ⟨B.e, 0, none⟩)), (6, .pointer (some ⟨B.p, 0, none⟩)), (7, .pointer (some ⟨B.o, 0, none⟩)), (8, .pointer (some ⟨B.g, 0, none⟩)), (18, vw), (19, .int .i64 nt), (20, .int .i64 k)] a) (sel [0, 1, 2, 0, 1, 4, 4, 1, 1, 0] clR) (fun a w => (0 ≤ k ∧ k < nt) ∧ (CW w0 B nt ws vt vw top place who (good + t * outC ws nt place who m h ((k + 1) : Int).toNat) w) ∧ Fr 65 [(0, vh), (1, .int .i64 t), (2, .pointer (some ⟨B.t, 0, none⟩)), (3, .pointer (some ⟨B.w, 0, none⟩)), (4, .pointer (some ⟨B.f, 0, none⟩)), (5, .pointer (some ⟨B.e, 0, none⟩)), (6, .pointer (some ⟨B.p, 0, none⟩)), (7, .pointer (some ⟨B.o, 0, none⟩)), (8, .pointer (some ⟨B.g, 0, none⟩)), (18, vw), (19, .int .i64 nt), (20, .int .i64 k)] a) No 9 No := T3.block (id' := 1) (c := (sel [0, 1, 2, 0, 1, 4, 4, 1, 1, 0, 4] clR)) (by decide) (T3.seq (s := (sel [0, 1, 2, 0, 1, 4, 4, 1, 1, 0, 4, 0] clR)) (c := (sel [0, 1, 2, 0, 1, 4, 4, 1, 1, 0, 4, 1] clR)) (cl3 w0 B nt ws vt vw top place who vh h t good m c k) (cl4 w0 B nt ws vt vw top place who vh h t good m c k hrec))

def clAI (w0 : World) (B : CB) (nt : Nat) (ws : List Int) (vt vw : Value) (top place who : Nat) (vh : Value) (h : List Nat) (t good : Int) (m : Nat) (c : CC w0 B nt ws vt vw top place who vh h t good (m + 1)) (hrec : ChC m) (k : Int) (a : Act) (w : World) : Prop := (0 ≤ k ∧ k ≤ nt) ∧ (CW w0 B nt ws vt vw top place who (good + t * outC ws nt place who m h (k : Int).toNat) w) ∧ Fr 65 [(0, vh), (1, .int .i64 t), (2, .pointer (some ⟨B.t, 0, none⟩)), (3, .pointer (some ⟨B.w, 0, none⟩)), (4, .pointer (some ⟨B.f, 0, none⟩)), (5, .pointer (some ⟨B.e, 0, none⟩)), (6, .pointer (some ⟨B.p, 0, none⟩)), (7, .pointer (some ⟨B.o, 0, none⟩)), (8, .pointer (some ⟨B.g, 0, none⟩)), (18, vw), (19, .int .i64 nt), (20, .int .i64 k)] a
set_option maxRecDepth 100000 in
set_option maxHeartbeats 1000000 in
theorem clAt (w0 : World) (B : CB) (nt : Nat) (ws : List Int) (vt vw : Value) (top place who : Nat) (vh : Value) (h : List Nat) (t good : Int) (m : Nat) (c : CC w0 B nt ws vt vw top place who vh h t good (m + 1)) (hrec : ChC m) (k : Int) : T3 Try.prog (fun a w => clAI w0 B nt ws vt vw top place who vh h t good m c hrec k a w) (sel [0, 1, 2, 0, 1, 4, 4, 0] clR) (fun a w => ∃ q, Fr 65 ((21, .bool q) :: [(20, .int .i64 k)]) a ∧ ((q = true ↔ k < nt) ∧ clAI w0 B nt ws vt vw top place who vh h t good m c hrec k a w)) No 9 No := by
  refine T3.leaf ?_
  rintro Q JS JX JT K hS hK hX hE hT hR a w ⟨hk, hW, ⟨fr, rfl, q0, q1, q2, q3, q4, q5, q6, q7, q8, q18, q19, q20, _⟩⟩
  have n14 := c.f.n14
  rw [fr_clR, show fr 0 = _ from q0, show fr 1 = _ from q1, show fr 2 = _ from q2, show fr 3 = _ from q3, show fr 4 = _ from q4, show fr 5 = _ from q5, show fr 6 = _ from q6, show fr 7 = _ from q7, show fr 8 = _ from q8, show fr 18 = _ from q18, show fr 19 = _ from q19, show fr 20 = _ from q20]
  clear q0 q1 q2 q3 q4 q5 q6 q7 q8 q18 q19 q20
  conv => arg 2; whnf
  by_cases hlt : k < nt
  · go_wp2_with fail
    refine Met.intro (hS _ _ ?_)
    exact ⟨true, Fr.of _ rfl ⟨rfl, rfl, trivial⟩, ⟨fun _ => hlt, fun _ => rfl⟩, hk, hW, Fr.of _ rfl ⟨rfl, rfl, rfl, rfl, rfl, rfl, rfl, rfl, rfl, rfl, rfl, rfl, trivial⟩⟩
  · have hpb : decide (k < (nt)) = false := by simp; omega
    go_wp2_with fail
    refine Met.intro (hS _ _ ?_)
    exact ⟨false, Fr.of _ rfl ⟨rfl, rfl, trivial⟩, ⟨(fun h => by cases h), fun h => absurd h (by omega)⟩, hk, hW, Fr.of _ rfl ⟨rfl, rfl, rfl, rfl, rfl, rfl, rfl, rfl, rfl, rfl, rfl, rfl, trivial⟩⟩

set_option maxRecDepth 100000 in
set_option maxHeartbeats 1000000 in
theorem clAn (w0 : World) (B : CB) (nt : Nat) (ws : List Int) (vt vw : Value) (top place who : Nat) (vh : Value) (h : List Nat) (t good : Int) (m : Nat) (c : CC w0 B nt ws vt vw top place who vh h t good (m + 1)) (hrec : ChC m) (k : Int) : T3 Try.prog (fun a w => (0 ≤ k ∧ k < nt) ∧ (CW w0 B nt ws vt vw top place who (good + t * outC ws nt place who m h ((k + 1) : Int).toNat) w) ∧ Fr 65 [(0, vh), (1, .int .i64 t), (2, .pointer (some ⟨B.t, 0, none⟩)), (3, .pointer (some ⟨B.w, 0, none⟩)), (4, .pointer (some ⟨B.f, 0, none⟩)), (5, .pointer (some ⟨B.e, 0, none⟩)), (6, .pointer (some ⟨B.p, 0, none⟩)), (7, .pointer (some ⟨B.o, 0, none⟩)), (8, .pointer (some ⟨B.g, 0, none⟩)), (18, vw), (19, .int .i64 nt), (20, .int .i64 k)] a) (sel [0, 1, 2, 0, 1, 4, 4, 1, 1, 1] clR) (fun a w => clAI w0 B nt ws vt vw top place who vh h t good m c hrec (k + 1) a w) No 9 No := by
  refine T3.leaf ?_
  rintro Q JS JX JT K hS hK hX hE hT hR a w ⟨hk, hW, ⟨fr, rfl, q0, q1, q2, q3, q4, q5, q6, q7, q8, q18, q19, q20, _⟩⟩
  obtain ⟨hk0, hk1⟩ := hk
  have n14 := c.f.n14
  rw [fr_clR, show fr 0 = _ from q0, show fr 1 = _ from q1, show fr 2 = _ from q2, show fr 3 = _ from q3, show fr 4 = _ from q4, show fr 5 = _ from q5, show fr 6 = _ from q6, show fr 7 = _ from q7, show fr 8 = _ from q8, show fr 18 = _ from q18, show fr 19 = _ from q19, show fr 20 = _ from q20]
  clear q0 q1 q2 q3 q4 q5 q6 q7 q8 q18 q19 q20
  conv => arg 2; whnf
  go_wp2_with fail
  refine Met.intro (hS _ _ ?_)
  exact ⟨⟨by omega, by omega⟩, hW, Fr.of _ rfl ⟨rfl, rfl, rfl, rfl, rfl, rfl, rfl, rfl, rfl, rfl, rfl, rfl, trivial⟩⟩

set_option maxRecDepth 100000 in
set_option maxHeartbeats 1000000 in
theorem clAloop (w0 : World) (B : CB) (nt : Nat) (ws : List Int) (vt vw : Value) (top place who : Nat) (vh : Value) (h : List Nat) (t good : Int) (m : Nat) (c : CC w0 B nt ws vt vw top place who vh h t good (m + 1)) (hrec : ChC m) : T3 Try.prog (fun a w => clAI w0 B nt ws vt vw top place who vh h t good m c hrec 0 a w) (sel [0, 1, 2, 0, 1] clR) (fun a w => (CW w0 B nt ws vt vw top place who (good + t * chF (fun i => geti ws (i : Int)) nt place who (m + 1) h) w) ∧ Fr 65 [] a) No 9 No := by
  refine T3.loop (c := (sel [0, 1, 2, 0, 1, 4, 4] clR)) (fun ng_ a w => ∃ k : Int, (ng_ : Int) = nt - k ∧ clAI w0 B nt ws vt vw top place who vh h t good m c hrec k a w) (fun a w h => ⟨(nt : Int).toNat, 0, by have := h.1.2; omega, h⟩) (fun ng_ => T3.ex fun k => T3.pure fun hng_ => ?_)
  refine T3.seq (s := (sel [0, 1, 2, 0, 1, 4, 4, 0] clR)) (c := (sel [0, 1, 2, 0, 1, 4, 4, 1] clR)) ((clAt w0 B nt ws vt vw top place who vh h t good m c hrec k).noX) ?_
  refine T3.seq (s := (sel [0, 1, 2, 0, 1, 4, 4, 1, 0] clR)) (c := (sel [0, 1, 2, 0, 1, 4, 4, 1, 1] clR)) (S := fun a w => (0 ≤ k ∧ k < nt) ∧ (CW w0 B nt ws vt vw top place who (good + t * outC ws nt place who m h (k : Int).toNat) w) ∧ Fr 65 [(0, vh), (1, .int .i64 t), (2, .pointer (some ⟨B.t, 0, none⟩)), (3, .pointer (some ⟨B.w, 0, none⟩)), (4, .pointer (some ⟨B.f, 0, none⟩)), (5, .pointer (some ⟨B.e, 0, none⟩)), (6, .pointer (some ⟨B.p, 0, none⟩)), (7, .pointer (some ⟨B.o, 0, none⟩)), (8, .pointer (some ⟨B.g, 0, none⟩)), (18, vw), (19, .int .i64 nt), (20, .int .i64 k)] a) ?_ (T3.seq (s := (sel [0, 1, 2, 0, 1, 4, 4, 1, 1, 0] clR)) (c := (sel [0, 1, 2, 0, 1, 4, 4, 1, 1, 1] clR)) (S := fun a w => (0 ≤ k ∧ k < nt) ∧ (CW w0 B nt ws vt vw top place who (good + t * outC ws nt place who m h ((k + 1) : Int).toNat) w) ∧ Fr 65 [(0, vh), (1, .int .i64 t), (2, .pointer (some ⟨B.t, 0, none⟩)), (3, .pointer (some ⟨B.w, 0, none⟩)), (4, .pointer (some ⟨B.f, 0, none⟩)), (5, .pointer (some ⟨B.e, 0, none⟩)), (6, .pointer (some ⟨B.p, 0, none⟩)), (7, .pointer (some ⟨B.o, 0, none⟩)), (8, .pointer (some ⟨B.g, 0, none⟩)), (18, vw), (19, .int .i64 nt), (20, .int .i64 k)] a) (T3.noX (clb w0 B nt ws vt vw top place who vh h t good m c k hrec)) ?_)
  · refine T3.cond (o := .tmp 21) (x := .skip) (y := .exit 0) (fun a w => k < nt ∧ clAI w0 B nt ws vt vw top place who vh h t good m c hrec k a w) (fun a w => ¬ k < nt ∧ clAI w0 B nt ws vt vw top place who vh h t good m c hrec k a w) ?_ (T3.skip ?_) (T3.exit ?_)
    · rintro a w ⟨q, hF, hq, hI⟩
      have he := hF.eval 21 (by decide) (v := .bool q) (by simp)
      cases q
      · exact .inr ⟨he, (fun h => by have := hq.2 h; cases this), hI⟩
      · exact .inl ⟨he, hq.1 rfl, hI⟩
    · rintro a w ⟨hlt, hk, hI⟩
      exact ⟨⟨hk.1, hlt⟩, hI⟩
    · rintro a w ⟨hlt, hk, hI⟩
      obtain rfl : k = nt := by omega
      obtain ⟨hW, hF⟩ := hI
      rw [show ((nt : Nat) : Int).toNat = nt by omega, outC_all] at hW
      exact ⟨hW, hF.sub (by simp)⟩
  · intro a w hx
    have hk := hx.1
    exact (((clAn w0 B nt ws vt vw top place who vh h t good m c hrec k).noX).post (fun a w q => ⟨ng_ - 1, by omega, k + 1, by omega, q⟩)) a w hx
set_option maxRecDepth 100000 in
set_option maxHeartbeats 1000000 in
theorem cl6 (w0 : World) (B : CB) (nt : Nat) (ws : List Int) (vt vw : Value) (top place who : Nat) (vh : Value) (h : List Nat) (t good : Int) (c : CC w0 B nt ws vt vw top place who vh h t good 0) : T3 Try.prog (fun a w => (CW w0 B nt ws vt vw top place who (good) w) ∧ Fr 65 [(0, vh), (1, .int .i64 t), (2, .pointer (some ⟨B.t, 0, none⟩)), (3, .pointer (some ⟨B.w, 0, none⟩)), (4, .pointer (some ⟨B.f, 0, none⟩)), (5, .pointer (some ⟨B.e, 0, none⟩)), (6, .pointer (some ⟨B.p, 0, none⟩)), (7, .pointer (some ⟨B.o, 0, none⟩)), (8, .pointer (some ⟨B.g, 0, none⟩))] a) (sel [1, 0, 0] clR) (fun a w => (0 ≤ (0 : Int) ∧ (0 : Int) ≤ nt) ∧ ∃ (v : Value), (CV w0 B nt ws vt vw top place who good v (h ++ restTo h (0 : Int).toNat) w) ∧ Fr 65 [(0, v), (1, .int .i64 t), (2, .pointer (some ⟨B.t, 0, none⟩)), (3, .pointer (some ⟨B.w, 0, none⟩)), (4, .pointer (some ⟨B.f, 0, none⟩)), (5, .pointer (some ⟨B.e, 0, none⟩)), (6, .pointer (some ⟨B.p, 0, none⟩)), (7, .pointer (some ⟨B.o, 0, none⟩)), (8, .pointer (some ⟨B.g, 0, none⟩)), (40, vt), (41, .int .i64 nt), (42, .int .i64 0)] a) No 9 No := by
  refine T3.leaf ?_
  rintro Q JS JX JT K hS hK hX hE hT hR a w ⟨hW, ⟨fr, rfl, q0, q1, q2, q3, q4, q5, q6, q7, q8, _⟩⟩
  have h0 : h ++ restTo h (0 : Int).toNat = h := by simp [restTo]
  have HV := Lib.hid (show CV w0 B nt ws vt vw top place who good vh (h ++ restTo h (0 : Int).toNat) w by rw [h0]; exact ⟨hW, hW.hr c, c.hv⟩)
  have x0 := hW.cx.ce
  obtain ⟨pp, cc, hvt⟩ := hW.cx.vs
  subst hvt
  clear hW h0
  rw [fr_clR, show fr 0 = _ from q0, show fr 1 = _ from q1, show fr 2 = _ from q2, show fr 3 = _ from q3, show fr 4 = _ from q4, show fr 5 = _ from q5, show fr 6 = _ from q6, show fr 7 = _ from q7, show fr 8 = _ from q8]
  clear q0 q1 q2 q3 q4 q5 q6 q7 q8
  conv => arg 2; whnf
  go_wp2_with fail
  refine Met.intro (hS _ _ ?_)
  exact ⟨⟨by omega, by omega⟩, _, HV.out, Fr.of _ rfl ⟨rfl, rfl, rfl, rfl, rfl, rfl, rfl, rfl, rfl, rfl, rfl, rfl, trivial⟩⟩

set_option maxRecDepth 100000 in
set_option maxHeartbeats 1000000 in
theorem cl8 (w0 : World) (B : CB) (nt : Nat) (ws : List Int) (vt vw : Value) (top place who : Nat) (vh : Value) (h : List Nat) (t good : Int) (c : CC w0 B nt ws vt vw top place who vh h t good 0) (k : Int) : T3 Try.prog (fun a w => ∃ (v : Value), (0 ≤ k ∧ k < nt) ∧ (CV w0 B nt ws vt vw top place who good v (h ++ restTo h (k : Int).toNat) w) ∧ Fr 65 [(0, v), (1, .int .i64 t), (2, .pointer (some ⟨B.t, 0, none⟩)), (3, .pointer (some ⟨B.w, 0, none⟩)), (4, .pointer (some ⟨B.f, 0, none⟩)), (5, .pointer (some ⟨B.e, 0, none⟩)), (6, .pointer (some ⟨B.p, 0, none⟩)), (7, .pointer (some ⟨B.o, 0, none⟩)), (8, .pointer (some ⟨B.g, 0, none⟩)), (40, vt), (41, .int .i64 nt), (42, .int .i64 k)] a) (sel [1, 0, 1, 4, 4, 1, 1, 0, 4, 0] clR) (fun a w => ∃ (v : Value), (0 ≤ k ∧ k < nt) ∧ (CV w0 B nt ws vt vw top place who good v (h ++ restTo h (k : Int).toNat) w) ∧ Fr 65 [(0, v), (1, .int .i64 t), (2, .pointer (some ⟨B.t, 0, none⟩)), (3, .pointer (some ⟨B.w, 0, none⟩)), (4, .pointer (some ⟨B.f, 0, none⟩)), (5, .pointer (some ⟨B.e, 0, none⟩)), (6, .pointer (some ⟨B.p, 0, none⟩)), (7, .pointer (some ⟨B.o, 0, none⟩)), (8, .pointer (some ⟨B.g, 0, none⟩)), (13, .int .i64 k), (40, vt), (41, .int .i64 nt), (42, .int .i64 k)] a) No 9 No := by
  refine T3.leaf ?_
  rintro Q JS JX JT K hS hK hX hE hT hR a w ⟨v, hpre, hW, ⟨fr, rfl, q0, q1, q2, q3, q4, q5, q6, q7, q8, q40, q41, q42, _⟩⟩
  have hpp := Lib.hid hpre
  obtain ⟨pp, cc, hvt⟩ := hW.cw.cx.vs
  subst hvt
  rw [fr_clR, show fr 0 = _ from q0, show fr 1 = _ from q1, show fr 2 = _ from q2, show fr 3 = _ from q3, show fr 4 = _ from q4, show fr 5 = _ from q5, show fr 6 = _ from q6, show fr 7 = _ from q7, show fr 8 = _ from q8, show fr 40 = _ from q40, show fr 41 = _ from q41, show fr 42 = _ from q42]
  clear q0 q1 q2 q3 q4 q5 q6 q7 q8 q40 q41 q42
  conv => arg 2; whnf
  go_wp2_with fail
  refine Met.intro (hS _ _ ?_)
  exact ⟨_, hpp.out, hW, Fr.of _ rfl ⟨rfl, rfl, rfl, rfl, rfl, rfl, rfl, rfl, rfl, rfl, rfl, rfl, rfl, trivial⟩⟩

set_option maxRecDepth 100000 in
set_option maxHeartbeats 1000000 in
theorem cl9 (w0 : World) (B : CB) (nt : Nat) (ws : List Int) (vt vw : Value) (top place who : Nat) (vh : Value) (h : List Nat) (t good : Int) (c : CC w0 B nt ws vt vw top place who vh h t good 0) (k : Int) (v : Value) : T3 Try.prog (fun a w => (0 ≤ k ∧ k < nt) ∧ (CV w0 B nt ws vt vw top place who good v (h ++ restTo h (k : Int).toNat) w) ∧ Fr 65 [(0, v), (1, .int .i64 t), (2, .pointer (some ⟨B.t, 0, none⟩)), (3, .pointer (some ⟨B.w, 0, none⟩)), (4, .pointer (some ⟨B.f, 0, none⟩)), (5, .pointer (some ⟨B.e, 0, none⟩)), (6, .pointer (some ⟨B.p, 0, none⟩)), (7, .pointer (some ⟨B.o, 0, none⟩)), (8, .pointer (some ⟨B.g, 0, none⟩)), (13, .int .i64 k), (40, vt), (41, .int .i64 nt), (42, .int .i64 k)] a) (sel [1, 0, 1, 4, 4, 1, 1, 0, 4, 1, 0] clR) (fun a w => ∃ q, Fr 65 ((48, .bool q) :: [(0, v), (1, .int .i64 t), (2, .pointer (some ⟨B.t, 0, none⟩)), (3, .pointer (some ⟨B.w, 0, none⟩)), (4, .pointer (some ⟨B.f, 0, none⟩)), (5, .pointer (some ⟨B.e, 0, none⟩)), (6, .pointer (some ⟨B.p, 0, none⟩)), (7, .pointer (some ⟨B.o, 0, none⟩)), (8, .pointer (some ⟨B.g, 0, none⟩)), (13, .int .i64 k), (40, vt), (41, .int .i64 nt), (42, .int .i64 k)]) a ∧ (((0 ≤ k ∧ k < nt) ∧ q = !h.contains k.toNat) ∧ CV w0 B nt ws vt vw top place who good v (h ++ restTo h (k : Int).toNat) w)) No 9 No := by
  refine T3.leaf ?_
  rintro Q JS JX JT K hS hK hX hE hT hR a w ⟨hpre, hW, ⟨fr, rfl, q0, q1, q2, q3, q4, q5, q6, q7, q8, q13, q40, q41, q42, _⟩⟩
  have hpp := Lib.hid hpre
  obtain ⟨hk0, hk1⟩ := hpre
  have hc := contains_l v (h ++ restTo h k.toNat).length (natsL (h ++ restTo h k.toNat)) k 0 w hW.row
  rw [natsL_contains _ _ hk0, grow_contains] at hc
  have HP := Lib.hid hc
  obtain ⟨pp, cc, hvt⟩ := hW.cw.cx.vs
  subst hvt
  have HW := Lib.hid hW
  obtain ⟨p9, c9, hv9⟩ := hW.row.shape
  subst hv9
  clear hW hc
  generalize h.contains k.toNat = q at *
  generalize hHH : h ++ restTo h k.toNat = HH at *
  clear hHH
  rw [fr_clR, show fr 0 = _ from q0, show fr 1 = _ from q1, show fr 2 = _ from q2, show fr 3 = _ from q3, show fr 4 = _ from q4, show fr 5 = _ from q5, show fr 6 = _ from q6, show fr 7 = _ from q7, show fr 8 = _ from q8, show fr 13 = _ from q13, show fr 40 = _ from q40, show fr 41 = _ from q41, show fr 42 = _ from q42]
  clear q0 q1 q2 q3 q4 q5 q6 q7 q8 q13 q40 q41 q42
  conv => arg 2; whnf
  go_wp2_with fail
  refine HP.out.mono ?_
  rintro e w1 ⟨rfl, rfl⟩
  go_wp2_with fail
  have hpre := hpp.out
  refine Met.intro (hS _ _ ?_)
  exact ⟨_, Fr.of _ rfl ⟨rfl, rfl, rfl, rfl, rfl, rfl, rfl, rfl, rfl, rfl, rfl, rfl, rfl, rfl, trivial⟩, ⟨hpre, rfl⟩, HW.out⟩

set_option maxRecDepth 100000 in
set_option maxHeartbeats 1000000 in
theorem cl10 (w0 : World) (B : CB) (nt : Nat) (ws : List Int) (vt vw : Value) (top place who : Nat) (vh : Value) (h : List Nat) (t good : Int) (c : CC w0 B nt ws vt vw top place who vh h t good 0) (k : Int) (v : Value) : T3 Try.prog (fun a w => Fr 65 ((48, .bool true) :: [(0, v), (1, .int .i64 t), (2, .pointer (some ⟨B.t, 0, none⟩)), (3, .pointer (some ⟨B.w, 0, none⟩)), (4, .pointer (some ⟨B.f, 0, none⟩)), (5, .pointer (some ⟨B.e, 0, none⟩)), (6, .pointer (some ⟨B.p, 0, none⟩)), (7, .pointer (some ⟨B.o, 0, none⟩)), (8, .pointer (some ⟨B.g, 0, none⟩)), (13, .int .i64 k), (40, vt), (41, .int .i64 nt), (42, .int .i64 k)]) a ∧ ((0 ≤ k ∧ k < nt) ∧ true = !h.contains k.toNat) ∧ CV w0 B nt ws vt vw top place who good v (h ++ restTo h (k : Int).toNat) w) (sel [1, 0, 1, 4, 4, 1, 1, 0, 4, 1, 1, 2] clR) (fun a w => ∃ (v : Value), (0 ≤ k ∧ k < nt) ∧ (CV w0 B nt ws vt vw top place who good v (h ++ restTo h ((k + 1) : Int).toNat) w) ∧ Fr 65 [(0, v), (1, .int .i64 t), (2, .pointer (some ⟨B.t, 0, none⟩)), (3, .pointer (some ⟨B.w, 0, none⟩)), (4, .pointer (some ⟨B.f, 0, none⟩)), (5, .pointer (some ⟨B.e, 0, none⟩)), (6, .pointer (some ⟨B.p, 0, none⟩)), (7, .pointer (some ⟨B.o, 0, none⟩)), (8, .pointer (some ⟨B.g, 0, none⟩)), (40, vt), (41, .int .i64 nt), (42, .int .i64 k)] a) No 9 No := by
  refine T3.leaf ?_
  rintro Q JS JX JT K hS hK hX hE hT hR a w ⟨⟨fr, rfl, q48, q0, q1, q2, q3, q4, q5, q6, q7, q8, q13, q40, q41, q42, _⟩, ⟨hpre, hq⟩, hW⟩
  have hpp := Lib.hid hpre
  obtain ⟨hk0, hk1⟩ := hpre
  have hcn : h.contains k.toNat = false := by simpa using hq.symm
  have Hs := Lib.hid (show h ++ restTo h (k + 1).toNat = (h ++ restTo h k.toNat) ++ [k.toNat] by rw [show (k + 1).toNat = k.toNat + 1 by omega, restTo_succ, hcn, List.append_assoc]; rfl)
  have n14 := c.f.n14
  have hm0 := c.hm
  have htn := c.f.tn
  have hrl : (restTo h k.toNat).length ≤ k.toNat := by unfold restTo; exact Nat.le_trans (List.length_filter_le _ _) (by simp)
  have hgl : (h ++ restTo h k.toNat).length ≤ 1000 := by rw [List.length_append]; omega
  have hkk : ((k.toNat : Nat) : Int) = k := by omega
  have HCL := Lib.hid (clone_l v _ _ 0 w hW.row hgl)
  have HW := Lib.hid hW
  have hgg := hW.cw.cx.lt
  obtain ⟨p9, c9, hv9⟩ := hW.row.shape
  subst hv9
  obtain ⟨pp, cc, hvt⟩ := hW.cw.cx.vs
  subst hvt
  have hEL := el_intD
  have HKK := Lib.hid hkk
  clear hq hcn hkk hW hrl
  generalize hGG : h ++ restTo h k.toNat = GG at *
  clear hGG
  rw [fr_clR, show fr 48 = _ from q48, show fr 0 = _ from q0, show fr 1 = _ from q1, show fr 2 = _ from q2, show fr 3 = _ from q3, show fr 4 = _ from q4, show fr 5 = _ from q5, show fr 6 = _ from q6, show fr 7 = _ from q7, show fr 8 = _ from q8, show fr 13 = _ from q13, show fr 40 = _ from q40, show fr 41 = _ from q41, show fr 42 = _ from q42]
  clear q48 q0 q1 q2 q3 q4 q5 q6 q7 q8 q13 q40 q41 q42
  conv => arg 2; whnf
  go_wp2_with fail
  refine HCL.out.mono ?_
  rintro e w2 ⟨v2, rfl, ho2, hb2⟩
  obtain ⟨p2, c2, hv2⟩ := (Row.of_owns ho2).shape
  subst hv2
  have hsz2 : w.heap.size ≤ w2.heap.size := hb2.size
  have HB2 := Lib.hid hb2
  clear hb2
  go_wp2_with (at_builtin; refine app_law rfl _ _ _ rfl hEL (ho2.alloc _) rfl [.int .i64 k] rfl rfl (cells_new w2 #[_] _) (by simp [Value.oneCell']) (by omega) (by simp; omega) ?_; intro v3 w3 hown3 hgr3)
  have hb3 : Below w.heap.size w w3 := (HB2.out.alloc HB2.out.size _).grown hgr3 (by simp; omega) (fun j hj => (ho2.lt j hj).1)
  refine Met.intro (hS _ _ ?_)
  refine ⟨v3, hpp.out, ⟨HW.out.cw.below hb3, ?_, (fun e => by have := (hown3.lt _ e).1; omega)⟩, Fr.of _ rfl ⟨rfl, rfl, rfl, rfl, rfl, rfl, rfl, rfl, rfl, rfl, rfl, rfl, trivial⟩⟩
  rw [Hs.out, natsL_snoc, List.map_append, List.length_append, HKK.out]
  exact (Row.of_owns hown3).mono (Nat.zero_le _)

set_option maxRecDepth 100000 in
set_option maxHeartbeats 1000000 in
theorem cl2b (w0 : World) (B : CB) (nt : Nat) (ws : List Int) (vt vw : Value) (top place who : Nat) (vh : Value) (h : List Nat) (t good : Int) (c : CC w0 B nt ws vt vw top place who vh h t good 0) (k : Int) : T3 Try.prog (fun a w => ∃ (v : Value), (0 ≤ k ∧ k < nt) ∧ (CV w0 B nt ws vt vw top place who good v (h ++ restTo h (k : Int).toNat) w) ∧ Fr 65 [(0, v), (1, .int .i64 t), (2, .pointer (some ⟨B.t, 0, none⟩)), (3, .pointer (some ⟨B.w, 0, none⟩)), (4, .pointer (some ⟨B.f, 0, none⟩)), (5, .pointer (some ⟨B.e, 0, none⟩)), (6, .pointer (some ⟨B.p, 0, none⟩)), (7, .pointer (some ⟨B.o, 0, none⟩)), (8, .pointer (some ⟨B.g, 0, none⟩)), (40, vt), (41, .int .i64 nt), (42, .int .i64 k)] a) (sel [1, 0, 1, 4, 4, 1, 1, 0] clR) (fun a w => ∃ (v : Value), (0 ≤ k ∧ k < nt) ∧ (CV w0 B nt ws vt vw top place who good v (h ++ restTo h ((k + 1) : Int).toNat) w) ∧ Fr 65 [(0, v), (1, .int .i64 t), (2, .pointer (some ⟨B.t, 0, none⟩)), (3, .pointer (some ⟨B.w, 0, none⟩)), (4, .pointer (some ⟨B.f, 0, none⟩)), (5, .pointer (some ⟨B.e, 0, none⟩)), (6, .pointer (some ⟨B.p, 0, none⟩)), (7, .pointer (some ⟨B.o, 0, none⟩)), (8, .pointer (some ⟨B.g, 0, none⟩)), (40, vt), (41, .int .i64 nt), (42, .int .i64 k)] a) No 9 No := by
  refine T3.block (id' := 3) (c := (sel [1, 0, 1, 4, 4, 1, 1, 0, 4] clR)) (by decide) ?_
  refine T3.seq (s := (sel [1, 0, 1, 4, 4, 1, 1, 0, 4, 0] clR)) (c := (sel [1, 0, 1, 4, 4, 1, 1, 0, 4, 1] clR)) (cl8 w0 B nt ws vt vw top place who vh h t good c k) (T3.ex fun v => ?_)
  refine T3.test (s := (sel [1, 0, 1, 4, 4, 1, 1, 0, 4, 1, 0] clR)) (x := (sel [1, 0, 1, 4, 4, 1, 1, 0, 4, 1, 1, 2] clR)) (y := .skip) (C := fun q => ((0 ≤ k ∧ k < nt) ∧ q = !h.contains k.toNat)) (W := fun w => CV w0 B nt ws vt vw top place who good v (h ++ restTo h (k : Int).toNat) w) (by decide) (cl9 w0 B nt ws vt vw top place who vh h t good c k v) (cl10 w0 B nt ws vt vw top place who vh h t good c k v) (T3.skip ?_)
  rintro a w ⟨⟨hp, hq⟩, hW, hF⟩
  refine ⟨v, hp, ?_, hF.sub (by simp)⟩
  have hcn : h.contains k.toNat = true := by simpa using hq.symm
  rw [show (k + 1).toNat = k.toNat + 1 by omega, restTo_succ, hcn]
  simpa using hW

def clBI (w0 : World) (B : CB) (nt : Nat) (ws : List Int) (vt vw : Value) (top place who : Nat) (vh : Value) (h : List Nat) (t good : Int) (c : CC w0 B nt ws vt vw top place who vh h t good 0) (k : Int) (a : Act) (w : World) : Prop := (0 ≤ k ∧ k ≤ nt) ∧ ∃ (v : Value), (CV w0 B nt ws vt vw top place who good v (h ++ restTo h (k : Int).toNat) w) ∧ Fr 65 [(0, v), (1, .int .i64 t), (2, .pointer (some ⟨B.t, 0, none⟩)), (3, .pointer (some ⟨B.w, 0, none⟩)), (4, .pointer (some ⟨B.f, 0, none⟩)), (5, .pointer (some ⟨B.e, 0, none⟩)), (6, .pointer (some ⟨B.p, 0, none⟩)), (7, .pointer (some ⟨B.o, 0, none⟩)), (8, .pointer (some ⟨B.g, 0, none⟩)), (40, vt), (41, .int .i64 nt), (42, .int .i64 k)] a
set_option maxRecDepth 100000 in
set_option maxHeartbeats 1000000 in
theorem clBt (w0 : World) (B : CB) (nt : Nat) (ws : List Int) (vt vw : Value) (top place who : Nat) (vh : Value) (h : List Nat) (t good : Int) (c : CC w0 B nt ws vt vw top place who vh h t good 0) (k : Int) : T3 Try.prog (fun a w => clBI w0 B nt ws vt vw top place who vh h t good c k a w) (sel [1, 0, 1, 4, 4, 0] clR) (fun a w => ∃ q, Fr 65 ((43, .bool q) :: [(42, .int .i64 k)]) a ∧ ((q = true ↔ k < nt) ∧ clBI w0 B nt ws vt vw top place who vh h t good c k a w)) No 9 No := by
  refine T3.leaf ?_
  rintro Q JS JX JT K hS hK hX hE hT hR a w ⟨hk, v, hW, ⟨fr, rfl, q0, q1, q2, q3, q4, q5, q6, q7, q8, q40, q41, q42, _⟩⟩
  have n14 := c.f.n14
  rw [fr_clR, show fr 0 = _ from q0, show fr 1 = _ from q1, show fr 2 = _ from q2, show fr 3 = _ from q3, show fr 4 = _ from q4, show fr 5 = _ from q5, show fr 6 = _ from q6, show fr 7 = _ from q7, show fr 8 = _ from q8, show fr 40 = _ from q40, show fr 41 = _ from q41, show fr 42 = _ from q42]
  clear q0 q1 q2 q3 q4 q5 q6 q7 q8 q40 q41 q42
  conv => arg 2; whnf
  by_cases hlt : k < nt
  · go_wp2_with fail
    refine Met.intro (hS _ _ ?_)
    exact ⟨true, Fr.of _ rfl ⟨rfl, rfl, trivial⟩, ⟨fun _ => hlt, fun _ => rfl⟩, hk, v, hW, Fr.of _ rfl ⟨rfl, rfl, rfl, rfl, rfl, rfl, rfl, rfl, rfl, rfl, rfl, rfl, trivial⟩⟩
  · have hpb : decide (k < (nt)) = false := by simp; omega
    go_wp2_with fail
    refine Met.intro (hS _ _ ?_)
    exact ⟨false, Fr.of _ rfl ⟨rfl, rfl, trivial⟩, ⟨(fun h => by cases h), fun h => absurd h (by omega)⟩, hk, v, hW, Fr.of _ rfl ⟨rfl, rfl, rfl, rfl, rfl, rfl, rfl, rfl, rfl, rfl, rfl, rfl, trivial⟩⟩

set_option maxRecDepth 100000 in
set_option maxHeartbeats 1000000 in
theorem clBn (w0 : World) (B : CB) (nt : Nat) (ws : List Int) (vt vw : Value) (top place who : Nat) (vh : Value) (h : List Nat) (t good : Int) (c : CC w0 B nt ws vt vw top place who vh h t good 0) (k : Int) : T3 Try.prog (fun a w => (0 ≤ k ∧ k < nt) ∧ ∃ (v : Value), (CV w0 B nt ws vt vw top place who good v (h ++ restTo h ((k + 1) : Int).toNat) w) ∧ Fr 65 [(0, v), (1, .int .i64 t), (2, .pointer (some ⟨B.t, 0, none⟩)), (3, .pointer (some ⟨B.w, 0, none⟩)), (4, .pointer (some ⟨B.f, 0, none⟩)), (5, .pointer (some ⟨B.e, 0, none⟩)), (6, .pointer (some ⟨B.p, 0, none⟩)), (7, .pointer (some ⟨B.o, 0, none⟩)), (8, .pointer (some ⟨B.g, 0, none⟩)), (40, vt), (41, .int .i64 nt), (42, .int .i64 k)] a) (sel [1, 0, 1, 4, 4, 1, 1, 1] clR) (fun a w => clBI w0 B nt ws vt vw top place who vh h t good c (k + 1) a w) No 9 No := by
  refine T3.leaf ?_
  rintro Q JS JX JT K hS hK hX hE hT hR a w ⟨hk, v, hW, ⟨fr, rfl, q0, q1, q2, q3, q4, q5, q6, q7, q8, q40, q41, q42, _⟩⟩
  obtain ⟨hk0, hk1⟩ := hk
  have n14 := c.f.n14
  rw [fr_clR, show fr 0 = _ from q0, show fr 1 = _ from q1, show fr 2 = _ from q2, show fr 3 = _ from q3, show fr 4 = _ from q4, show fr 5 = _ from q5, show fr 6 = _ from q6, show fr 7 = _ from q7, show fr 8 = _ from q8, show fr 40 = _ from q40, show fr 41 = _ from q41, show fr 42 = _ from q42]
  clear q0 q1 q2 q3 q4 q5 q6 q7 q8 q40 q41 q42
  conv => arg 2; whnf
  go_wp2_with fail
  refine Met.intro (hS _ _ ?_)
  exact ⟨⟨by omega, by omega⟩, v, hW, Fr.of _ rfl ⟨rfl, rfl, rfl, rfl, rfl, rfl, rfl, rfl, rfl, rfl, rfl, rfl, trivial⟩⟩

set_option maxRecDepth 100000 in
set_option maxHeartbeats 1000000 in
theorem clBloop (w0 : World) (B : CB) (nt : Nat) (ws : List Int) (vt vw : Value) (top place who : Nat) (vh : Value) (h : List Nat) (t good : Int) (c : CC w0 B nt ws vt vw top place who vh h t good 0) : T3 Try.prog (fun a w => clBI w0 B nt ws vt vw top place who vh h t good c 0 a w) (sel [1, 0, 1] clR) (fun a w => ∃ (v : Value), (CV w0 B nt ws vt vw top place who good v (allL nt h) w) ∧ Fr 65 [(0, v), (1, .int .i64 t), (2, .pointer (some ⟨B.t, 0, none⟩)), (3, .pointer (some ⟨B.w, 0, none⟩)), (4, .pointer (some ⟨B.f, 0, none⟩)), (5, .pointer (some ⟨B.e, 0, none⟩)), (6, .pointer (some ⟨B.p, 0, none⟩)), (7, .pointer (some ⟨B.o, 0, none⟩)), (8, .pointer (some ⟨B.g, 0, none⟩))] a) No 9 No := by
  refine T3.loop (c := (sel [1, 0, 1, 4, 4] clR)) (fun ng_ a w => ∃ k : Int, (ng_ : Int) = nt - k ∧ clBI w0 B nt ws vt vw top place who vh h t good c k a w) (fun a w h => ⟨(nt : Int).toNat, 0, by have := h.1.2; omega, h⟩) (fun ng_ => T3.ex fun k => T3.pure fun hng_ => ?_)
  refine T3.seq (s := (sel [1, 0, 1, 4, 4, 0] clR)) (c := (sel [1, 0, 1, 4, 4, 1] clR)) ((clBt w0 B nt ws vt vw top place who vh h t good c k).noX) ?_
  refine T3.seq (s := (sel [1, 0, 1, 4, 4, 1, 0] clR)) (c := (sel [1, 0, 1, 4, 4, 1, 1] clR)) (S := fun a w => (0 ≤ k ∧ k < nt) ∧ ∃ (v : Value), (CV w0 B nt ws vt vw top place who good v (h ++ restTo h (k : Int).toNat) w) ∧ Fr 65 [(0, v), (1, .int .i64 t), (2, .pointer (some ⟨B.t, 0, none⟩)), (3, .pointer (some ⟨B.w, 0, none⟩)), (4, .pointer (some ⟨B.f, 0, none⟩)), (5, .pointer (some ⟨B.e, 0, none⟩)), (6, .pointer (some ⟨B.p, 0, none⟩)), (7, .pointer (some ⟨B.o, 0, none⟩)), (8, .pointer (some ⟨B.g, 0, none⟩)), (40, vt), (41, .int .i64 nt), (42, .int .i64 k)] a) ?_ (T3.seq (s := (sel [1, 0, 1, 4, 4, 1, 1, 0] clR)) (c := (sel [1, 0, 1, 4, 4, 1, 1, 1] clR)) (S := fun a w => (0 ≤ k ∧ k < nt) ∧ ∃ (v : Value), (CV w0 B nt ws vt vw top place who good v (h ++ restTo h ((k + 1) : Int).toNat) w) ∧ Fr 65 [(0, v), (1, .int .i64 t), (2, .pointer (some ⟨B.t, 0, none⟩)), (3, .pointer (some ⟨B.w, 0, none⟩)), (4, .pointer (some ⟨B.f, 0, none⟩)), (5, .pointer (some ⟨B.e, 0, none⟩)), (6, .pointer (some ⟨B.p, 0, none⟩)), (7, .pointer (some ⟨B.o, 0, none⟩)), (8, .pointer (some ⟨B.g, 0, none⟩)), (40, vt), (41, .int .i64 nt), (42, .int .i64 k)] a) (T3.noX (T3.mono (R' := fun a w => (0 ≤ k ∧ k < nt) ∧ ∃ (v : Value), (CV w0 B nt ws vt vw top place who good v (h ++ restTo h (k : Int).toNat) w) ∧ Fr 65 [(0, v), (1, .int .i64 t), (2, .pointer (some ⟨B.t, 0, none⟩)), (3, .pointer (some ⟨B.w, 0, none⟩)), (4, .pointer (some ⟨B.f, 0, none⟩)), (5, .pointer (some ⟨B.e, 0, none⟩)), (6, .pointer (some ⟨B.p, 0, none⟩)), (7, .pointer (some ⟨B.o, 0, none⟩)), (8, .pointer (some ⟨B.g, 0, none⟩)), (40, vt), (41, .int .i64 nt), (42, .int .i64 k)] a) (S' := fun a w => (0 ≤ k ∧ k < nt) ∧ ∃ (v : Value), (CV w0 B nt ws vt vw top place who good v (h ++ restTo h ((k + 1) : Int).toNat) w) ∧ Fr 65 [(0, v), (1, .int .i64 t), (2, .pointer (some ⟨B.t, 0, none⟩)), (3, .pointer (some ⟨B.w, 0, none⟩)), (4, .pointer (some ⟨B.f, 0, none⟩)), (5, .pointer (some ⟨B.e, 0, none⟩)), (6, .pointer (some ⟨B.p, 0, none⟩)), (7, .pointer (some ⟨B.o, 0, none⟩)), (8, .pointer (some ⟨B.g, 0, none⟩)), (40, vt), (41, .int .i64 nt), (42, .int .i64 k)] a) (cl2b w0 B nt ws vt vw top place who vh h t good c k) (fun a w ⟨hk, v, hI⟩ => ⟨v, hk, hI⟩) (fun a w ⟨v, hk, hI⟩ => ⟨hk, v, hI⟩) (fun _ _ q => q) (fun _ _ q => q))) ?_)
  · refine T3.cond (o := .tmp 43) (x := .skip) (y := .exit 2) (fun a w => k < nt ∧ clBI w0 B nt ws vt vw top place who vh h t good c k a w) (fun a w => ¬ k < nt ∧ clBI w0 B nt ws vt vw top place who vh h t good c k a w) ?_ (T3.skip ?_) (T3.exit ?_)
    · rintro a w ⟨q, hF, hq, hI⟩
      have he := hF.eval 43 (by decide) (v := .bool q) (by simp)
      cases q
      · exact .inr ⟨he, (fun h => by have := hq.2 h; cases this), hI⟩
      · exact .inl ⟨he, hq.1 rfl, hI⟩
    · rintro a w ⟨hlt, hk, hI⟩
      exact ⟨⟨hk.1, hlt⟩, hI⟩
    · rintro a w ⟨hlt, hk, hI⟩
      obtain rfl : k = nt := by omega
      obtain ⟨v, hW, hF⟩ := hI
      rw [show ((nt : Nat) : Int).toNat = nt by omega, restTo_all] at hW
      exact ⟨v, hW, hF.sub (by simp)⟩
  · intro a w hx
    have hk := hx.1
    exact (((clBn w0 B nt ws vt vw top place who vh h t good c k).noX).post (fun a w q => ⟨ng_ - 1, by omega, k + 1, by omega, q⟩)) a w hx
set_option maxRecDepth 100000 in
set_option maxHeartbeats 1000000 in
theorem cl12 (w0 : World) (B : CB) (nt : Nat) (ws : List Int) (vt vw : Value) (top place who : Nat) (vh : Value) (h : List Nat) (t good : Int) (c : CC w0 B nt ws vt vw top place who vh h t good 0) (v : Value) : T3 Try.prog (fun a w => (CV w0 B nt ws vt vw top place who good v (allL nt h) w) ∧ Fr 65 [(0, v), (1, .int .i64 t), (2, .pointer (some ⟨B.t, 0, none⟩)), (3, .pointer (some ⟨B.w, 0, none⟩)), (4, .pointer (some ⟨B.f, 0, none⟩)), (5, .pointer (some ⟨B.e, 0, none⟩)), (6, .pointer (some ⟨B.p, 0, none⟩)), (7, .pointer (some ⟨B.o, 0, none⟩)), (8, .pointer (some ⟨B.g, 0, none⟩))] a) (sel [1, 1, 0] clR) (fun a w => ∃ q, Fr 65 ((61, .bool q) :: [(0, v), (1, .int .i64 t), (2, .pointer (some ⟨B.t, 0, none⟩)), (3, .pointer (some ⟨B.w, 0, none⟩)), (4, .pointer (some ⟨B.f, 0, none⟩)), (5, .pointer (some ⟨B.e, 0, none⟩)), (6, .pointer (some ⟨B.p, 0, none⟩)), (7, .pointer (some ⟨B.o, 0, none⟩)), (8, .pointer (some ⟨B.g, 0, none⟩))]) a ∧ ((q = (geti (natsL (allL nt h)) place == (who : Int))) ∧ CV w0 B nt ws vt vw top place who good v (allL nt h) w)) No 9 No := by
  refine T3.leafN ?_
  rintro JS hS a w ⟨hW, ⟨fr, rfl, q0, q1, q2, q3, q4, q5, q6, q7, q8, _⟩⟩
  have HW := Lib.hid hW
  have n14 := c.f.n14
  have fp := c.f.hp
  have hal := allL_full c.hh
  have hwr : IntKind.i64.wrap (place : Int) = place := IntWalk.i64_in _ (by omega)
  have x1 := hW.cw.cx.cp
  have x5 := hW.cw.cx.co
  have hrow := hW.row
  rw [hal] at hrow
  obtain ⟨_, hcs⟩ := hrow.ints
  rcases hcs with ⟨rfl, h0⟩ | ⟨bz, off, cap, rfl, _, hbz, hnc, hcm, hcell⟩
  · omega
  have x4 := hcell (place : Int) (by omega) (by omega)
  rw [Int.toNat_natCast] at x4
  clear hcell hrow hal hW
  generalize geti (natsL (allL nt h)) place = gp at *
  rw [fr_clR, show fr 0 = _ from q0, show fr 1 = _ from q1, show fr 2 = _ from q2, show fr 3 = _ from q3, show fr 4 = _ from q4, show fr 5 = _ from q5, show fr 6 = _ from q6, show fr 7 = _ from q7, show fr 8 = _ from q8]
  clear q0 q1 q2 q3 q4 q5 q6 q7 q8
  conv => arg 2; whnf
  refine wp_region_mix (none) [(true, 0), (true, 1), (true, 2), (true, 3), (true, 4), (true, 5), (true, 6)] (by kernel_rfl) (by kernel_rfl) (by intro c a d v w h; cases d <;> exact h) ?_
  simp only [pickFlat, List.filterMap_cons, List.filterMap_nil, List.getElem?_cons_succ, List.getElem?_cons_zero, Option.map_some]
  have A1 := wof_at (w₁ := w.drew) (row := none) (a := ⟨B.p, 0, none⟩) x1 (by simp)
  have A4 := wof_at (w₁ := w.drew) (row := none) (a := ⟨bz, off + place, none⟩) x4 (by simp)
  have A5 := wof_at (w₁ := w.drew) (row := none) (a := ⟨B.o, 0, none⟩) x5 (by simp)
  refine flat_hide (fun W hH hC hN hE => ?_)
  iterate 7 (refine hH.out _ _ _ _ (fun K hK => ?_); go_simp; refine hK _ ?_; clear hK K)
  refine hE.out _ _ ?_
  clear hH hC hN hE W
  show JS _ _
  refine hS _ _ ?_
  exact ⟨_, Fr.of _ rfl ⟨rfl, rfl, rfl, rfl, rfl, rfl, rfl, rfl, rfl, rfl, trivial⟩, rfl, ⟨HW.out.cw.below (below_drewN (Below.refl _ _) 1), HW.out.row.below (below_drewN (Below.refl _ _) 1), HW.out.vb⟩⟩

set_option maxRecDepth 100000 in
set_option maxHeartbeats 1000000 in
theorem cl13 (w0 : World) (B : CB) (nt : Nat) (ws : List Int) (vt vw : Value) (top place who : Nat) (vh : Value) (h : List Nat) (t good : Int) (c : CC w0 B nt ws vt vw top place who vh h t good 0) (v : Value) : T3 Try.prog (fun a w => Fr 65 ((61, .bool true) :: [(0, v), (1, .int .i64 t), (2, .pointer (some ⟨B.t, 0, none⟩)), (3, .pointer (some ⟨B.w, 0, none⟩)), (4, .pointer (some ⟨B.f, 0, none⟩)), (5, .pointer (some ⟨B.e, 0, none⟩)), (6, .pointer (some ⟨B.p, 0, none⟩)), (7, .pointer (some ⟨B.o, 0, none⟩)), (8, .pointer (some ⟨B.g, 0, none⟩))]) a ∧ (true = (geti (natsL (allL nt h)) place == (who : Int))) ∧ CV w0 B nt ws vt vw top place who good v (allL nt h) w) (sel [1, 1, 1, 2] clR) (fun a w => (CW w0 B nt ws vt vw top place who (good + t * chF (fun i => geti ws (i : Int)) nt place who 0 h) w) ∧ Fr 65 [] a) No 9 No := by
  refine T3.leaf ?_
  rintro Q JS JX JT K hS hK hX hE hT hR a w ⟨⟨fr, rfl, q61, q0, q1, q2, q3, q4, q5, q6, q7, q8, _⟩, hq, hW⟩
  have hal := allL_full c.hh
  have fp := c.f.hp
  have hg : geti (natsL (allL nt h)) place = who := by simpa using hq.symm
  have hat := natsL_at (allL nt h) place (by omega) (by omega)
  have HC := Lib.hid (show good + t * chF (fun i => geti ws (i : Int)) nt place who 0 h = good + t by
    unfold chF
    rw [if_pos, Int.mul_one]
    rw [hat] at hg
    rw [List.getElem?_eq_getElem (by omega)]
    simp only [Int.toNat_natCast] at hg
    congr 1
    omega)
  have HP := Lib.hid (hW.cw.put (good + t))
  have x0 := hW.cw.cx.cg
  have x1 := hW.cw.cx.fg
  have g0 := c.g0
  have t0 := c.t0
  have mx := c.mx
  rw [Int.pow_zero, Int.mul_one] at mx
  obtain ⟨pp, cc, hvt⟩ := hW.cw.cx.vs
  subst hvt
  clear hq hg hat hal hW
  rw [fr_clR, show fr 61 = _ from q61, show fr 0 = _ from q0, show fr 1 = _ from q1, show fr 2 = _ from q2, show fr 3 = _ from q3, show fr 4 = _ from q4, show fr 5 = _ from q5, show fr 6 = _ from q6, show fr 7 = _ from q7, show fr 8 = _ from q8]
  clear q61 q0 q1 q2 q3 q4 q5 q6 q7 q8
  conv => arg 2; whnf
  go_wp2_with fail
  refine Met.intro (hS _ _ ?_)
  rw [HC.out]
  exact ⟨HP.out, Fr.of _ rfl trivial⟩

theorem cl_zero : ChC 0 := by
  intro w0 B nt ws vt vw top place who vh h t good c
  have hall : T3 Try.prog (fun a w => (CW w0 B nt ws vt vw top place who (good) w) ∧ Fr 65 [(0, vh), (1, .int .i64 t), (2, .pointer (some ⟨B.t, 0, none⟩)), (3, .pointer (some ⟨B.w, 0, none⟩)), (4, .pointer (some ⟨B.f, 0, none⟩)), (5, .pointer (some ⟨B.e, 0, none⟩)), (6, .pointer (some ⟨B.p, 0, none⟩)), (7, .pointer (some ⟨B.o, 0, none⟩)), (8, .pointer (some ⟨B.g, 0, none⟩))] a) clR (fun a w => (CW w0 B nt ws vt vw top place who (good + t * chF (fun i => geti ws (i : Int)) nt place who 0 h) w) ∧ Fr 65 [] a) No 9 No := by
    refine T3.seq (s := (sel [0] clR)) (c := (sel [1] clR)) (S := (fun a w => (CW w0 B nt ws vt vw top place who (good) w) ∧ Fr 65 [(0, vh), (1, .int .i64 t), (2, .pointer (some ⟨B.t, 0, none⟩)), (3, .pointer (some ⟨B.w, 0, none⟩)), (4, .pointer (some ⟨B.f, 0, none⟩)), (5, .pointer (some ⟨B.e, 0, none⟩)), (6, .pointer (some ⟨B.p, 0, none⟩)), (7, .pointer (some ⟨B.o, 0, none⟩)), (8, .pointer (some ⟨B.g, 0, none⟩))] a)) ?_ ?_
    · refine T3.test (s := (sel [0, 0] clR)) (x := (sel [0, 1, 2] clR)) (y := .skip) (C := fun q => (q = decide (h.length < top))) (W := fun w => CW w0 B nt ws vt vw top place who (good) w) (by decide) (cl0 w0 B nt ws vt vw top place who vh h t good 0 c) (fun a w q => ?_) (T3.skip fun a w q => q.2)
      have h1 : h.length < top := by simpa using q.2.1.symm
      have := c.hm
      omega
    refine T3.seq (s := (sel [1, 0] clR)) (c := (sel [1, 1] clR)) (T3.seq (s := (sel [1, 0, 0] clR)) (c := (sel [1, 0, 1] clR)) (cl6 w0 B nt ws vt vw top place who vh h t good c) (clBloop w0 B nt ws vt vw top place who vh h t good c)) (T3.ex fun v => ?_)
    refine T3.test (s := (sel [1, 1, 0] clR)) (x := (sel [1, 1, 1, 2] clR)) (y := .skip) (C := fun q => (q = (geti (natsL (allL nt h)) place == (who : Int)))) (W := fun w => CV w0 B nt ws vt vw top place who good v (allL nt h) w) (by decide) (cl12 w0 B nt ws vt vw top place who vh h t good c v) (cl13 w0 B nt ws vt vw top place who vh h t good c v) (T3.skip ?_)
    rintro a w ⟨hq, hW, hF⟩
    refine ⟨?_, hF.sub (by simp)⟩
    have hal := allL_full c.hh
    have fp := c.f.hp
    have hat := natsL_at (allL nt h) place (by omega) (by omega)
    have hg : ¬ geti (natsL (allL nt h)) place = who := by simpa using hq.symm
    have e : good + t * chF (fun i => geti ws (i : Int)) nt place who 0 h = good := by
      unfold chF
      rw [if_neg, Int.mul_zero, Int.add_zero]
      intro he
      rw [hat] at hg
      rw [List.getElem?_eq_getElem (by omega)] at he
      simp only [Int.toNat_natCast] at hg
      have := Option.some.inj he
      omega
    rw [e]
    exact hW.cw
  go_enter Try.func50, Try.ntmps50
  refine t3_end (s := clR) hall ⟨⟨c.cx, grown_refl _ _⟩, Fr.of _ rfl ⟨rfl, rfl, rfl, rfl, rfl, rfl, rfl, rfl, rfl, trivial⟩⟩ ?_ ?_
  · rintro a w ⟨hW, ⟨fr, rfl, _⟩⟩
    rw [fr_clR]
    go_end0
    exact ⟨rfl, hW⟩
  · intro a w q
    exact q.elim
theorem cl_succ (m : Nat) (hrec : ChC m) : ChC (m + 1) := by
  intro w0 B nt ws vt vw top place who vh h t good c
  have hall : T3 Try.prog (fun a w => (CW w0 B nt ws vt vw top place who (good) w) ∧ Fr 65 [(0, vh), (1, .int .i64 t), (2, .pointer (some ⟨B.t, 0, none⟩)), (3, .pointer (some ⟨B.w, 0, none⟩)), (4, .pointer (some ⟨B.f, 0, none⟩)), (5, .pointer (some ⟨B.e, 0, none⟩)), (6, .pointer (some ⟨B.p, 0, none⟩)), (7, .pointer (some ⟨B.o, 0, none⟩)), (8, .pointer (some ⟨B.g, 0, none⟩))] a) clR No No 9 (fun a w => (CW w0 B nt ws vt vw top place who (good + t * chF (fun i => geti ws (i : Int)) nt place who (m + 1) h) w) ∧ Fr 65 [] a) := by
    refine T3.seq (s := (sel [0] clR)) (c := (sel [1] clR)) (S := No) ?_ (fun a w q => q.elim)
    refine T3.test (s := (sel [0, 0] clR)) (x := (sel [0, 1, 2] clR)) (y := .skip) (C := fun q => (q = decide (h.length < top))) (W := fun w => CW w0 B nt ws vt vw top place who (good) w) (by decide) ((cl0 w0 B nt ws vt vw top place who vh h t good (m + 1) c).mono (fun _ _ q => q) (fun _ _ q => q) (fun _ _ q => q.elim) (fun _ _ q => q)) ?_ (T3.skip fun a w q => ?_)
    · refine T3.seq (s := (sel [0, 1, 2, 0] clR)) (c := .ret) (S := (fun a w => (CW w0 B nt ws vt vw top place who (good + t * chF (fun i => geti ws (i : Int)) nt place who (m + 1) h) w) ∧ Fr 65 [] a)) ?_ (T3.ret fun a w q => q)
      refine (T3.seq (s := (sel [0, 1, 2, 0, 0] clR)) (c := (sel [0, 1, 2, 0, 1] clR)) (cl1 w0 B nt ws vt vw top place who vh h t good m c) (clAloop w0 B nt ws vt vw top place who vh h t good m c hrec)).mono ?_ (fun _ _ q => q) (fun _ _ q => q.elim) (fun _ _ q => q)
      rintro a w ⟨hF, hq, hW⟩
      exact ⟨hW, hF.tail⟩
    · have h1 : ¬ h.length < top := by simpa using q.1.symm
      have := c.hm
      omega
  go_enter Try.func50, Try.ntmps50
  refine t3_end (s := clR) hall ⟨⟨c.cx, grown_refl _ _⟩, Fr.of _ rfl ⟨rfl, rfl, rfl, rfl, rfl, rfl, rfl, rfl, rfl, trivial⟩⟩ ?_ ?_
  · intro a w q
    exact q.elim
  · rintro a w ⟨hW, ⟨fr, rfl, _⟩⟩
    rw [fr_clR]
    refine bodyPost_ret (results_none rfl _ _ _) rfl ?_
    exact ⟨rfl, hW⟩
theorem cl_all : ∀ m, ChC m
  | 0 => cl_zero
  | m + 1 => cl_succ m (cl_all m)
end Go.Proofs.Ytkdimgghljklmaa
/-
  Lots: with which probability a team gets a place, the reference's ChanceOf. Conditions: right arguments.
-/
set_option linter.unusedVariables false
namespace Go.Proofs.Ytkdimgghljklmaa
open Go.RowKit Go.Bw
theorem cell_past {w : World} {a : Addr} {v : Value} (h : w.cell? a = some v) (o : Obj) : (w.alloc o).cell? a = some v :=
  (((Below.refl w.heap.size w).alloc (Nat.le_refl _) o).cell (World.block_lt_of_cell? w _ h)).trans h
/-- The blocks of the arguments, in the world ahead of the answer's block. -/
structure Q5 (w0 W : World) (vt vw : Value) (place top : Int) (be bw bp bt : Nat) : Prop where
  ce : W.cell? ⟨be, 0, none⟩ = some vt
  cw : W.cell? ⟨bw, 0, none⟩ = some vw
  cp : W.cell? ⟨bp, 0, none⟩ = some (.int .i64 place)
  ct : W.cell? ⟨bt, 0, none⟩ = some (.int .i64 top)
  bel : Below w0.heap.size w0 W
theorem Q5.start (w0 : World) (vt vw : Value) (place top : Int) (e1 e2 e3 e4 : TypeId) : Q5 w0 ((((w0.alloc (.cells #[vt] e1)).alloc (.cells #[vw] e2)).alloc (.cells #[.int .i64 place] e3)).alloc (.cells #[.int .i64 top] e4)) vt vw place top w0.heap.size (w0.heap.size + 1) (w0.heap.size + 1 + 1) (w0.heap.size + 1 + 1 + 1) := by
  have a1 := cells_new w0 #[vt] e1 0 _ rfl
  have a2 := cells_new (w0.alloc (.cells #[vt] e1)) #[vw] e2 0 _ rfl
  have a3 := cells_new ((w0.alloc (.cells #[vt] e1)).alloc (.cells #[vw] e2)) #[.int .i64 place] e3 0 _ rfl
  have a4 := cells_new (((w0.alloc (.cells #[vt] e1)).alloc (.cells #[vw] e2)).alloc (.cells #[.int .i64 place] e3)) #[.int .i64 top] e4 0 _ rfl
  have s1 : (w0.alloc (.cells #[vt] e1)).heap.size = w0.heap.size + 1 := by simp
  have s2 : ((w0.alloc (.cells #[vt] e1)).alloc (.cells #[vw] e2)).heap.size = w0.heap.size + 1 + 1 := by simp
  have s3 : (((w0.alloc (.cells #[vt] e1)).alloc (.cells #[vw] e2)).alloc (.cells #[.int .i64 place] e3)).heap.size = w0.heap.size + 1 + 1 + 1 := by simp
  rw [s1] at a2
  rw [s2] at a3
  rw [s3] at a4
  exact ⟨cell_past (cell_past (cell_past a1 _) _) _, cell_past (cell_past a2 _) _, cell_past a3 _, a4, ((((Below.refl _ _).alloc (Nat.le_refl _) _).alloc (by simp) _).alloc (by simp; omega) _).alloc (by simp; omega) _⟩
/-- A new block of one cell. -/
theorem put_new (w : World) (v : Value) (e : TypeId) : (w.alloc (.cells #[v] e)).cell? ⟨w.heap.size, 0, none⟩ = some v ∧ (w.alloc (.cells #[v] e)).frozen? ⟨w.heap.size, 0, none⟩ = false ∧ Below w.heap.size w (w.alloc (.cells #[v] e)) :=
  ⟨cells_new w #[v] e 0 _ rfl, frozen_new0 _ _ _ _, (Below.refl _ _).alloc (Nat.le_refl _) _⟩
structure Qo (W w : World) (bo who : Nat) : Prop where
  co : w.cell? ⟨bo, 0, none⟩ = some (.int .i64 who)
  one : One W w
  lb : W.heap.size < bo
theorem Qo.below {W w w' : World} {bo who : Nat} (h : Qo W w bo who) (b : Below w.heap.size w w') : Qo W w' bo who := ⟨(b.cell (p := ⟨bo, 0, none⟩) (World.block_lt_of_cell? w _ h.co)).trans h.co, h.one.below b, h.lb⟩
structure Qg (W w : World) (bo bg who : Nat) : Prop where
  o : Qo W w bo who
  cg : w.cell? ⟨bg, 0, none⟩ = some (.int .i64 0)
  fg : w.frozen? ⟨bg, 0, none⟩ = false
  lb : W.heap.size < bg
  ne : bg ≠ bo
theorem Qg.below {W w w' : World} {bo bg who : Nat} (h : Qg W w bo bg who) (b : Below w.heap.size w w') : Qg W w' bo bg who :=
  ⟨h.o.below b, (b.cell (p := ⟨bg, 0, none⟩) (World.block_lt_of_cell? w _ h.cg)).trans h.cg, (b.frozen (p := ⟨bg, 0, none⟩) (World.block_lt_of_cell? w _ h.cg)).trans h.fg, h.lb, h.ne⟩
structure Qf (W w : World) (bo bg bf who : Nat) : Prop where
  g : Qg W w bo bg who
  cf : ∃ z, w.cell? ⟨bf, 0, none⟩ = some z
  ff : w.frozen? ⟨bf, 0, none⟩ = false
  lb : W.heap.size < bf
  n1 : bf ≠ bo
  n2 : bf ≠ bg
/-- All is laid; the closure too. -/
structure Qz (W : World) (B : CB) (nt : Nat) (ws : List Int) (vt vw : Value) (top place who : Nat) (good : Int) (w : World) : Prop where
  cx : CX B nt ws vt vw top place who good w
  one : One W w
  lb : W.heap.size < B.g
noncomputable def coR : Code := (Try.f20.body).getD .skip
set_option maxRecDepth 100000 in
theorem fr_coR (f : Nat → Value) : frame 44 f = ⟨#[f 0, f 1, f 2, f 3, f 4, f 5, f 6, f 7, f 8, f 9, f 10, f 11, f 12, f 13, f 14, f 15, f 16, f 17, f 18, f 19, f 20, f 21, f 22, f 23, f 24, f 25, f 26, f 27, f 28, f 29, f 30, f 31, f 32, f 33, f 34, f 35, f 36, f 37, f 38, f 39, f 40, f 41, f 42, f 43], []⟩ := by rfl
set_option maxRecDepth 100000 in
set_option maxHeartbeats 1000000 in
theorem co0 (w0 : World) (vt vw : Value) (ts : List ByteArray) (ws : List Int) (team : ByteArray) (who pn tn : Nat) (f : WF ts.length ws who pn tn) (hw : whoI ts team = (who : Int)) (h : WH w0 vt vw ts ws) : T3 Try.prog (fun a w => (IsW w0 w) ∧ Fr 44 [(0, vt), (1, vw), (2, .string team), (3, .int .i64 ((pn : Int) + 1)), (4, .int .i64 (tn : Nat))] a) (sel [0] coR) (fun a w => ∃ (W : World) (be bw bp bt br : Nat), (Q5 w0 W vt vw ((pn : Int) + 1) (tn : Nat) be bw bp bt ∧ br = W.heap.size) ∧ (One W w) ∧ Fr 44 [(2, .string team), (5, .pointer (some ⟨be, 0, none⟩)), (6, .pointer (some ⟨bw, 0, none⟩)), (8, .pointer (some ⟨bp, 0, none⟩)), (9, .pointer (some ⟨bt, 0, none⟩)), (10, .pointer (some ⟨br, 0, none⟩))] a) No 9 No := by
  refine T3.leaf ?_
  rintro Q JS JX JT K hS hK hX hE hT hR a w ⟨hW, ⟨fr, rfl, q0, q1, q2, q3, q4, _⟩⟩
  obtain rfl : w = w0 := hW
  have f14 := f.n14
  have fp := f.hp
  have ft := f.ht
  obtain ⟨p1, c1, hv1⟩ := h.t.shape
  subst hv1
  obtain ⟨p2, c2, hv2⟩ := h.w.shape
  subst hv2
  rw [fr_coR, show fr 0 = _ from q0, show fr 1 = _ from q1, show fr 2 = _ from q2, show fr 3 = _ from q3, show fr 4 = _ from q4]
  clear q0 q1 q2 q3 q4
  conv => arg 2; whnf
  go_wp2_with fail
  refine Met.intro (hS _ _ ?_)
  exact ⟨(((w.alloc (.cells #[.slice p1 ts.length c1] 26)).alloc (.cells #[.slice p2 ws.length c2] 22)).alloc (.cells #[.int .i64 ((pn : Int) + 1)] 3)).alloc (.cells #[.int .i64 (tn : Nat)] 3), _, _, _, _, _, ⟨Q5.start _ _ _ _ _ _ _ _ _, by simp⟩, One.start _, Fr.of _ rfl ⟨rfl, rfl, rfl, rfl, rfl, rfl, trivial⟩⟩

set_option maxRecDepth 100000 in
set_option maxHeartbeats 1000000 in
theorem co1 (w0 : World) (vt vw : Value) (ts : List ByteArray) (ws : List Int) (team : ByteArray) (who pn tn : Nat) (f : WF ts.length ws who pn tn) (hw : whoI ts team = (who : Int)) (h : WH w0 vt vw ts ws) (W : World) (be bw bp bt : Nat) (qq : Q5 w0 W vt vw ((pn : Int) + 1) (tn : Nat) be bw bp bt) : T3 Try.prog (fun a w => (One W w) ∧ Fr 44 [(2, .string team), (5, .pointer (some ⟨be, 0, none⟩)), (6, .pointer (some ⟨bw, 0, none⟩)), (8, .pointer (some ⟨bp, 0, none⟩)), (9, .pointer (some ⟨bt, 0, none⟩)), (10, .pointer (some ⟨W.heap.size, 0, none⟩))] a) (sel [1, 0] coR) (fun a w => (One W w) ∧ Fr 44 [(2, .string team), (5, .pointer (some ⟨be, 0, none⟩)), (6, .pointer (some ⟨bw, 0, none⟩)), (8, .pointer (some ⟨bp, 0, none⟩)), (9, .pointer (some ⟨bt, 0, none⟩)), (10, .pointer (some ⟨W.heap.size, 0, none⟩)), (11, .int .i64 0), (12, .int .i64 1)] a) No 9 No := by
  refine T3.leaf ?_
  rintro Q JS JX JT K hS hK hX hE hT hR a w ⟨hW, ⟨fr, rfl, q2, q5, q6, q8, q9, q10, _⟩⟩
  rw [fr_coR, show fr 2 = _ from q2, show fr 5 = _ from q5, show fr 6 = _ from q6, show fr 8 = _ from q8, show fr 9 = _ from q9, show fr 10 = _ from q10]
  clear q2 q5 q6 q8 q9 q10
  conv => arg 2; whnf
  go_wp2_with fail
  refine Met.intro (hS _ _ ?_)
  exact ⟨hW, Fr.of _ rfl ⟨rfl, rfl, rfl, rfl, rfl, rfl, rfl, rfl, trivial⟩⟩

set_option maxRecDepth 100000 in
set_option maxHeartbeats 1000000 in
theorem co2 (w0 : World) (vt vw : Value) (ts : List ByteArray) (ws : List Int) (team : ByteArray) (who pn tn : Nat) (f : WF ts.length ws who pn tn) (hw : whoI ts team = (who : Int)) (h : WH w0 vt vw ts ws) (W : World) (be bw bp bt : Nat) (qq : Q5 w0 W vt vw ((pn : Int) + 1) (tn : Nat) be bw bp bt) : T3 Try.prog (fun a w => (One W w) ∧ Fr 44 [(2, .string team), (5, .pointer (some ⟨be, 0, none⟩)), (6, .pointer (some ⟨bw, 0, none⟩)), (8, .pointer (some ⟨bp, 0, none⟩)), (9, .pointer (some ⟨bt, 0, none⟩)), (10, .pointer (some ⟨W.heap.size, 0, none⟩)), (11, .int .i64 0), (12, .int .i64 1)] a) (sel [1, 1, 0, 0] coR) (fun a w => (0 ≤ (0 : Int) ∧ (0 : Int) ≤ ws.length) ∧ (One W w) ∧ Fr 44 [(2, .string team), (5, .pointer (some ⟨be, 0, none⟩)), (6, .pointer (some ⟨bw, 0, none⟩)), (8, .pointer (some ⟨bp, 0, none⟩)), (9, .pointer (some ⟨bt, 0, none⟩)), (10, .pointer (some ⟨W.heap.size, 0, none⟩)), (11, .int .i64 (sumTo ws 0)), (12, .int .i64 1), (18, vw), (19, .int .i64 ws.length), (20, .int .i64 0)] a) No 9 No := by
  refine T3.leaf ?_
  rintro Q JS JX JT K hS hK hX hE hT hR a w ⟨hW, ⟨fr, rfl, q2, q5, q6, q8, q9, q10, q11, q12, _⟩⟩
  have HZ := Lib.hid (show sumTo ws 0 = 0 by simp [sumTo])
  have cw := (hW.rc.bel.cell (p := ⟨bw, 0, none⟩) (World.block_lt_of_cell? W _ qq.cw)).trans qq.cw
  obtain ⟨p1, c1, hv1⟩ := h.t.shape
  subst hv1
  obtain ⟨p2, c2, hv2⟩ := h.w.shape
  subst hv2
  rw [fr_coR, show fr 2 = _ from q2, show fr 5 = _ from q5, show fr 6 = _ from q6, show fr 8 = _ from q8, show fr 9 = _ from q9, show fr 10 = _ from q10, show fr 11 = _ from q11, show fr 12 = _ from q12]
  clear q2 q5 q6 q8 q9 q10 q11 q12
  conv => arg 2; whnf
  go_wp2_with fail
  refine Met.intro (hS _ _ ?_)
  rw [HZ.out]
  exact ⟨⟨by omega, by omega⟩, hW, Fr.of _ rfl ⟨rfl, rfl, rfl, rfl, rfl, rfl, rfl, rfl, rfl, rfl, rfl, trivial⟩⟩

set_option maxRecDepth 100000 in
set_option maxHeartbeats 1000000 in
theorem co4 (w0 : World) (vt vw : Value) (ts : List ByteArray) (ws : List Int) (team : ByteArray) (who pn tn : Nat) (f : WF ts.length ws who pn tn) (hw : whoI ts team = (who : Int)) (h : WH w0 vt vw ts ws) (W : World) (be bw bp bt : Nat) (qq : Q5 w0 W vt vw ((pn : Int) + 1) (tn : Nat) be bw bp bt) (k : Int) : T3 Try.prog (fun a w => (0 ≤ k ∧ k < ws.length) ∧ (One W w) ∧ Fr 44 [(2, .string team), (5, .pointer (some ⟨be, 0, none⟩)), (6, .pointer (some ⟨bw, 0, none⟩)), (8, .pointer (some ⟨bp, 0, none⟩)), (9, .pointer (some ⟨bt, 0, none⟩)), (10, .pointer (some ⟨W.heap.size, 0, none⟩)), (11, .int .i64 (sumTo ws k)), (12, .int .i64 1), (18, vw), (19, .int .i64 ws.length), (20, .int .i64 k)] a) (sel [1, 1, 0, 1, 4, 4, 1, 1, 0, 4, 0] coR) (fun a w => (0 ≤ k ∧ k < ws.length) ∧ (One W w) ∧ Fr 44 [(2, .string team), (5, .pointer (some ⟨be, 0, none⟩)), (6, .pointer (some ⟨bw, 0, none⟩)), (8, .pointer (some ⟨bp, 0, none⟩)), (9, .pointer (some ⟨bt, 0, none⟩)), (10, .pointer (some ⟨W.heap.size, 0, none⟩)), (11, .int .i64 (sumTo ws k)), (12, .int .i64 1), (14, .int .i64 (geti ws k)), (18, vw), (19, .int .i64 ws.length), (20, .int .i64 k)] a) No 9 No := by
  refine T3.leaf ?_
  rintro Q JS JX JT K hS hK hX hE hT hR a w ⟨hpre, hW, ⟨fr, rfl, q2, q5, q6, q8, q9, q10, q11, q12, q18, q19, q20, _⟩⟩
  have hpp := Lib.hid hpre
  obtain ⟨hk0, hk1⟩ := hpre
  have hbw := qq.bel.trans (hW.rc.bel.mono qq.bel.size)
  obtain ⟨_, hcs⟩ := (h.w.below hbw).ints
  rcases hcs with ⟨rfl, h0⟩ | ⟨bz, off, cap, rfl, _, hbz, hnc, hcm, hcell⟩
  · omega
  have t0 := hcell k hk0 hk1
  clear hcell
  rw [fr_coR, show fr 2 = _ from q2, show fr 5 = _ from q5, show fr 6 = _ from q6, show fr 8 = _ from q8, show fr 9 = _ from q9, show fr 10 = _ from q10, show fr 11 = _ from q11, show fr 12 = _ from q12, show fr 18 = _ from q18, show fr 19 = _ from q19, show fr 20 = _ from q20]
  clear q2 q5 q6 q8 q9 q10 q11 q12 q18 q19 q20
  conv => arg 2; whnf
  go_wp2_with fail
  refine Met.intro (hS _ _ ?_)
  exact ⟨hpp.out, hW, Fr.of _ rfl ⟨rfl, rfl, rfl, rfl, rfl, rfl, rfl, rfl, rfl, rfl, rfl, rfl, trivial⟩⟩

set_option maxRecDepth 100000 in
set_option maxHeartbeats 1000000 in
theorem co5 (w0 : World) (vt vw : Value) (ts : List ByteArray) (ws : List Int) (team : ByteArray) (who pn tn : Nat) (f : WF ts.length ws who pn tn) (hw : whoI ts team = (who : Int)) (h : WH w0 vt vw ts ws) (W : World) (be bw bp bt : Nat) (qq : Q5 w0 W vt vw ((pn : Int) + 1) (tn : Nat) be bw bp bt) (k : Int) : T3 Try.prog (fun a w => (0 ≤ k ∧ k < ws.length) ∧ (One W w) ∧ Fr 44 [(2, .string team), (5, .pointer (some ⟨be, 0, none⟩)), (6, .pointer (some ⟨bw, 0, none⟩)), (8, .pointer (some ⟨bp, 0, none⟩)), (9, .pointer (some ⟨bt, 0, none⟩)), (10, .pointer (some ⟨W.heap.size, 0, none⟩)), (11, .int .i64 (sumTo ws k)), (12, .int .i64 1), (14, .int .i64 (geti ws k)), (18, vw), (19, .int .i64 ws.length), (20, .int .i64 k)] a) (sel [1, 1, 0, 1, 4, 4, 1, 1, 0, 4, 1] coR) (fun a w => (0 ≤ k ∧ k < ws.length) ∧ (One W w) ∧ Fr 44 [(2, .string team), (5, .pointer (some ⟨be, 0, none⟩)), (6, .pointer (some ⟨bw, 0, none⟩)), (8, .pointer (some ⟨bp, 0, none⟩)), (9, .pointer (some ⟨bt, 0, none⟩)), (10, .pointer (some ⟨W.heap.size, 0, none⟩)), (11, .int .i64 (sumTo ws (k + 1))), (12, .int .i64 1), (18, vw), (19, .int .i64 ws.length), (20, .int .i64 k)] a) No 9 No := by
  refine T3.leaf ?_
  rintro Q JS JX JT K hS hK hX hE hT hR a w ⟨hpre, hW, ⟨fr, rfl, q2, q5, q6, q8, q9, q10, q11, q12, q14, q18, q19, q20, _⟩⟩
  have hpp := Lib.hid hpre
  obtain ⟨hk0, hk1⟩ := hpre
  have hsb := sumTo_le f.lo k hk0 (by omega)
  have hg := geti_lo f.lo hk0 hk1
  have Hs := Lib.hid (sumTo_succ ws k hk0 hk1)
  have hwn := h.wn
  obtain ⟨p1, c1, hv1⟩ := h.t.shape
  subst hv1
  obtain ⟨p2, c2, hv2⟩ := h.w.shape
  subst hv2
  generalize geti ws k = x at *
  generalize sumTo ws k = s at *
  rw [fr_coR, show fr 2 = _ from q2, show fr 5 = _ from q5, show fr 6 = _ from q6, show fr 8 = _ from q8, show fr 9 = _ from q9, show fr 10 = _ from q10, show fr 11 = _ from q11, show fr 12 = _ from q12, show fr 14 = _ from q14, show fr 18 = _ from q18, show fr 19 = _ from q19, show fr 20 = _ from q20]
  clear q2 q5 q6 q8 q9 q10 q11 q12 q14 q18 q19 q20
  conv => arg 2; whnf
  go_wp2_with fail
  refine Met.intro (hS _ _ ?_)
  rw [Hs.out]
  exact ⟨hpp.out, hW, Fr.of _ rfl ⟨rfl, rfl, rfl, rfl, rfl, rfl, rfl, rfl, rfl, rfl, rfl, trivial⟩⟩

set_option maxRecDepth 100000 in
set_option maxHeartbeats 1000000 in
theorem co1b (w0 : World) (vt vw : Value) (ts : List ByteArray) (ws : List Int) (team : ByteArray) (who pn tn : Nat) (f : WF ts.length ws who pn tn) (hw : whoI ts team = (who : Int)) (h : WH w0 vt vw ts ws) (W : World) (be bw bp bt : Nat) (qq : Q5 w0 W vt vw ((pn : Int) + 1) (tn : Nat) be bw bp bt) (k : Int) : T3 Try.prog (fun a w => (0 ≤ k ∧ k < ws.length) ∧ (One W w) ∧ Fr 44 [(2, .string team), (5, .pointer (some ⟨be, 0, none⟩)), (6, .pointer (some ⟨bw, 0, none⟩)), (8, .pointer (some ⟨bp, 0, none⟩)), (9, .pointer (some ⟨bt, 0, none⟩)), (10, .pointer (some ⟨W.heap.size, 0, none⟩)), (11, .int .i64 (sumTo ws k)), (12, .int .i64 1), (18, vw), (19, .int .i64 ws.length), (20, .int .i64 k)] a) (sel [1, 1, 0, 1, 4, 4, 1, 1, 0] coR) (fun a w => (0 ≤ k ∧ k < ws.length) ∧ (One W w) ∧ Fr 44 [(2, .string team), (5, .pointer (some ⟨be, 0, none⟩)), (6, .pointer (some ⟨bw, 0, none⟩)), (8, .pointer (some ⟨bp, 0, none⟩)), (9, .pointer (some ⟨bt, 0, none⟩)), (10, .pointer (some ⟨W.heap.size, 0, none⟩)), (11, .int .i64 (sumTo ws (k + 1))), (12, .int .i64 1), (18, vw), (19, .int .i64 ws.length), (20, .int .i64 k)] a) No 9 No := T3.block (id' := 1) (c := (sel [1, 1, 0, 1, 4, 4, 1, 1, 0, 4] coR)) (by decide) (T3.seq (s := (sel [1, 1, 0, 1, 4, 4, 1, 1, 0, 4, 0] coR)) (c := (sel [1, 1, 0, 1, 4, 4, 1, 1, 0, 4, 1] coR)) (co4 w0 vt vw ts ws team who pn tn f hw h W be bw bp bt qq k) (co5 w0 vt vw ts ws team who pn tn f hw h W be bw bp bt qq k))

def coAI (w0 : World) (vt vw : Value) (ts : List ByteArray) (ws : List Int) (team : ByteArray) (who pn tn : Nat) (f : WF ts.length ws who pn tn) (hw : whoI ts team = (who : Int)) (h : WH w0 vt vw ts ws) (W : World) (be bw bp bt : Nat) (qq : Q5 w0 W vt vw ((pn : Int) + 1) (tn : Nat) be bw bp bt) (k : Int) (a : Act) (w : World) : Prop := (0 ≤ k ∧ k ≤ ws.length) ∧ (One W w) ∧ Fr 44 [(2, .string team), (5, .pointer (some ⟨be, 0, none⟩)), (6, .pointer (some ⟨bw, 0, none⟩)), (8, .pointer (some ⟨bp, 0, none⟩)), (9, .pointer (some ⟨bt, 0, none⟩)), (10, .pointer (some ⟨W.heap.size, 0, none⟩)), (11, .int .i64 (sumTo ws k)), (12, .int .i64 1), (18, vw), (19, .int .i64 ws.length), (20, .int .i64 k)] a
set_option maxRecDepth 100000 in
set_option maxHeartbeats 1000000 in
theorem coAt (w0 : World) (vt vw : Value) (ts : List ByteArray) (ws : List Int) (team : ByteArray) (who pn tn : Nat) (f : WF ts.length ws who pn tn) (hw : whoI ts team = (who : Int)) (h : WH w0 vt vw ts ws) (W : World) (be bw bp bt : Nat) (qq : Q5 w0 W vt vw ((pn : Int) + 1) (tn : Nat) be bw bp bt) (k : Int) : T3 Try.prog (fun a w => coAI w0 vt vw ts ws team who pn tn f hw h W be bw bp bt qq k a w) (sel [1, 1, 0, 1, 4, 4, 0] coR) (fun a w => ∃ q, Fr 44 ((21, .bool q) :: [(20, .int .i64 k)]) a ∧ ((q = true ↔ k < ws.length) ∧ coAI w0 vt vw ts ws team who pn tn f hw h W be bw bp bt qq k a w)) No 9 No := by
  refine T3.leaf ?_
  rintro Q JS JX JT K hS hK hX hE hT hR a w ⟨hk, hW, ⟨fr, rfl, q2, q5, q6, q8, q9, q10, q11, q12, q18, q19, q20, _⟩⟩
  have hwn := h.wn
  rw [fr_coR, show fr 2 = _ from q2, show fr 5 = _ from q5, show fr 6 = _ from q6, show fr 8 = _ from q8, show fr 9 = _ from q9, show fr 10 = _ from q10, show fr 11 = _ from q11, show fr 12 = _ from q12, show fr 18 = _ from q18, show fr 19 = _ from q19, show fr 20 = _ from q20]
  clear q2 q5 q6 q8 q9 q10 q11 q12 q18 q19 q20
  conv => arg 2; whnf
  by_cases hlt : k < ws.length
  · go_wp2_with fail
    refine Met.intro (hS _ _ ?_)
    exact ⟨true, Fr.of _ rfl ⟨rfl, rfl, trivial⟩, ⟨fun _ => hlt, fun _ => rfl⟩, hk, hW, Fr.of _ rfl ⟨rfl, rfl, rfl, rfl, rfl, rfl, rfl, rfl, rfl, rfl, rfl, trivial⟩⟩
  · have hpb : decide (k < (ws.length : Int)) = false := by simp; omega
    go_wp2_with fail
    refine Met.intro (hS _ _ ?_)
    exact ⟨false, Fr.of _ rfl ⟨rfl, rfl, trivial⟩, ⟨(fun h => by cases h), fun h => absurd h (by omega)⟩, hk, hW, Fr.of _ rfl ⟨rfl, rfl, rfl, rfl, rfl, rfl, rfl, rfl, rfl, rfl, rfl, trivial⟩⟩

set_option maxRecDepth 100000 in
set_option maxHeartbeats 1000000 in
theorem coAn (w0 : World) (vt vw : Value) (ts : List ByteArray) (ws : List Int) (team : ByteArray) (who pn tn : Nat) (f : WF ts.length ws who pn tn) (hw : whoI ts team = (who : Int)) (h : WH w0 vt vw ts ws) (W : World) (be bw bp bt : Nat) (qq : Q5 w0 W vt vw ((pn : Int) + 1) (tn : Nat) be bw bp bt) (k : Int) : T3 Try.prog (fun a w => (0 ≤ k ∧ k < ws.length) ∧ (One W w) ∧ Fr 44 [(2, .string team), (5, .pointer (some ⟨be, 0, none⟩)), (6, .pointer (some ⟨bw, 0, none⟩)), (8, .pointer (some ⟨bp, 0, none⟩)), (9, .pointer (some ⟨bt, 0, none⟩)), (10, .pointer (some ⟨W.heap.size, 0, none⟩)), (11, .int .i64 (sumTo ws (k + 1))), (12, .int .i64 1), (18, vw), (19, .int .i64 ws.length), (20, .int .i64 k)] a) (sel [1, 1, 0, 1, 4, 4, 1, 1, 1] coR) (fun a w => coAI w0 vt vw ts ws team who pn tn f hw h W be bw bp bt qq (k + 1) a w) No 9 No := by
  refine T3.leaf ?_
  rintro Q JS JX JT K hS hK hX hE hT hR a w ⟨hk, hW, ⟨fr, rfl, q2, q5, q6, q8, q9, q10, q11, q12, q18, q19, q20, _⟩⟩
  obtain ⟨hk0, hk1⟩ := hk
  have hwn := h.wn
  rw [fr_coR, show fr 2 = _ from q2, show fr 5 = _ from q5, show fr 6 = _ from q6, show fr 8 = _ from q8, show fr 9 = _ from q9, show fr 10 = _ from q10, show fr 11 = _ from q11, show fr 12 = _ from q12, show fr 18 = _ from q18, show fr 19 = _ from q19, show fr 20 = _ from q20]
  clear q2 q5 q6 q8 q9 q10 q11 q12 q18 q19 q20
  conv => arg 2; whnf
  go_wp2_with fail
  refine Met.intro (hS _ _ ?_)
  exact ⟨⟨by omega, by omega⟩, hW, Fr.of _ rfl ⟨rfl, rfl, rfl, rfl, rfl, rfl, rfl, rfl, rfl, rfl, rfl, trivial⟩⟩

set_option maxRecDepth 100000 in
set_option maxHeartbeats 1000000 in
theorem coAloop (w0 : World) (vt vw : Value) (ts : List ByteArray) (ws : List Int) (team : ByteArray) (who pn tn : Nat) (f : WF ts.length ws who pn tn) (hw : whoI ts team = (who : Int)) (h : WH w0 vt vw ts ws) (W : World) (be bw bp bt : Nat) (qq : Q5 w0 W vt vw ((pn : Int) + 1) (tn : Nat) be bw bp bt) : T3 Try.prog (fun a w => coAI w0 vt vw ts ws team who pn tn f hw h W be bw bp bt qq 0 a w) (sel [1, 1, 0, 1] coR) (fun a w => (One W w) ∧ Fr 44 [(2, .string team), (5, .pointer (some ⟨be, 0, none⟩)), (6, .pointer (some ⟨bw, 0, none⟩)), (8, .pointer (some ⟨bp, 0, none⟩)), (9, .pointer (some ⟨bt, 0, none⟩)), (10, .pointer (some ⟨W.heap.size, 0, none⟩)), (11, .int .i64 ws.sum), (12, .int .i64 1)] a) No 9 No := by
  refine T3.loop (c := (sel [1, 1, 0, 1, 4, 4] coR)) (fun ng_ a w => ∃ k : Int, (ng_ : Int) = ws.length - k ∧ coAI w0 vt vw ts ws team who pn tn f hw h W be bw bp bt qq k a w) (fun a w h => ⟨(ws.length : Int).toNat, 0, by have := h.1.2; omega, h⟩) (fun ng_ => T3.ex fun k => T3.pure fun hng_ => ?_)
  refine T3.seq (s := (sel [1, 1, 0, 1, 4, 4, 0] coR)) (c := (sel [1, 1, 0, 1, 4, 4, 1] coR)) ((coAt w0 vt vw ts ws team who pn tn f hw h W be bw bp bt qq k).noX) ?_
  refine T3.seq (s := (sel [1, 1, 0, 1, 4, 4, 1, 0] coR)) (c := (sel [1, 1, 0, 1, 4, 4, 1, 1] coR)) (S := fun a w => (0 ≤ k ∧ k < ws.length) ∧ (One W w) ∧ Fr 44 [(2, .string team), (5, .pointer (some ⟨be, 0, none⟩)), (6, .pointer (some ⟨bw, 0, none⟩)), (8, .pointer (some ⟨bp, 0, none⟩)), (9, .pointer (some ⟨bt, 0, none⟩)), (10, .pointer (some ⟨W.heap.size, 0, none⟩)), (11, .int .i64 (sumTo ws k)), (12, .int .i64 1), (18, vw), (19, .int .i64 ws.length), (20, .int .i64 k)] a) ?_ (T3.seq (s := (sel [1, 1, 0, 1, 4, 4, 1, 1, 0] coR)) (c := (sel [1, 1, 0, 1, 4, 4, 1, 1, 1] coR)) (S := fun a w => (0 ≤ k ∧ k < ws.length) ∧ (One W w) ∧ Fr 44 [(2, .string team), (5, .pointer (some ⟨be, 0, none⟩)), (6, .pointer (some ⟨bw, 0, none⟩)), (8, .pointer (some ⟨bp, 0, none⟩)), (9, .pointer (some ⟨bt, 0, none⟩)), (10, .pointer (some ⟨W.heap.size, 0, none⟩)), (11, .int .i64 (sumTo ws (k + 1))), (12, .int .i64 1), (18, vw), (19, .int .i64 ws.length), (20, .int .i64 k)] a) (T3.noX (co1b w0 vt vw ts ws team who pn tn f hw h W be bw bp bt qq k)) ?_)
  · refine T3.cond (o := .tmp 21) (x := .skip) (y := .exit 0) (fun a w => k < ws.length ∧ coAI w0 vt vw ts ws team who pn tn f hw h W be bw bp bt qq k a w) (fun a w => ¬ k < ws.length ∧ coAI w0 vt vw ts ws team who pn tn f hw h W be bw bp bt qq k a w) ?_ (T3.skip ?_) (T3.exit ?_)
    · rintro a w ⟨q, hF, hq, hI⟩
      have he := hF.eval 21 (by decide) (v := .bool q) (by simp)
      cases q
      · exact .inr ⟨he, (fun h => by have := hq.2 h; cases this), hI⟩
      · exact .inl ⟨he, hq.1 rfl, hI⟩
    · rintro a w ⟨hlt, hk, hI⟩
      exact ⟨⟨hk.1, hlt⟩, hI⟩
    · rintro a w ⟨hlt, hk, hI⟩
      obtain rfl : k = ws.length := by omega
      obtain ⟨hW, hF⟩ := hI
      rw [sumTo_all] at hF
      exact ⟨hW, hF.sub (by simp)⟩
  · intro a w hx
    have hk := hx.1
    exact (((coAn w0 vt vw ts ws team who pn tn f hw h W be bw bp bt qq k).noX).post (fun a w q => ⟨ng_ - 1, by omega, k + 1, by omega, q⟩)) a w hx
set_option maxRecDepth 100000 in
set_option maxHeartbeats 1000000 in
theorem co7 (w0 : World) (vt vw : Value) (ts : List ByteArray) (ws : List Int) (team : ByteArray) (who pn tn : Nat) (f : WF ts.length ws who pn tn) (hw : whoI ts team = (who : Int)) (h : WH w0 vt vw ts ws) (W : World) (be bw bp bt : Nat) (qq : Q5 w0 W vt vw ((pn : Int) + 1) (tn : Nat) be bw bp bt) : T3 Try.prog (fun a w => (One W w) ∧ Fr 44 [(2, .string team), (5, .pointer (some ⟨be, 0, none⟩)), (6, .pointer (some ⟨bw, 0, none⟩)), (8, .pointer (some ⟨bp, 0, none⟩)), (9, .pointer (some ⟨bt, 0, none⟩)), (10, .pointer (some ⟨W.heap.size, 0, none⟩)), (11, .int .i64 ws.sum), (12, .int .i64 1)] a) (sel [1, 1, 1, 0, 0] coR) (fun a w => (0 ≤ (0 : Int) ∧ (0 : Int) ≤ tn) ∧ (One W w) ∧ Fr 44 [(2, .string team), (5, .pointer (some ⟨be, 0, none⟩)), (6, .pointer (some ⟨bw, 0, none⟩)), (8, .pointer (some ⟨bp, 0, none⟩)), (9, .pointer (some ⟨bt, 0, none⟩)), (10, .pointer (some ⟨W.heap.size, 0, none⟩)), (11, .int .i64 ws.sum), (12, .int .i64 (ws.sum ^ (0 : Int).toNat)), (28, .int .i64 (tn : Nat)), (29, .int .i64 0)] a) No 9 No := by
  refine T3.leaf ?_
  rintro Q JS JX JT K hS hK hX hE hT hR a w ⟨hW, ⟨fr, rfl, q2, q5, q6, q8, q9, q10, q11, q12, _⟩⟩
  have HZ := Lib.hid (show ws.sum ^ (0 : Int).toNat = 1 by simp)
  have ct := (hW.rc.bel.cell (p := ⟨bt, 0, none⟩) (World.block_lt_of_cell? W _ qq.ct)).trans qq.ct
  rw [fr_coR, show fr 2 = _ from q2, show fr 5 = _ from q5, show fr 6 = _ from q6, show fr 8 = _ from q8, show fr 9 = _ from q9, show fr 10 = _ from q10, show fr 11 = _ from q11, show fr 12 = _ from q12]
  clear q2 q5 q6 q8 q9 q10 q11 q12
  conv => arg 2; whnf
  go_wp2_with fail
  refine Met.intro (hS _ _ ?_)
  rw [HZ.out]
  exact ⟨⟨by omega, by omega⟩, hW, Fr.of _ rfl ⟨rfl, rfl, rfl, rfl, rfl, rfl, rfl, rfl, rfl, rfl, trivial⟩⟩

set_option maxRecDepth 100000 in
set_option maxHeartbeats 1000000 in
theorem co9 (w0 : World) (vt vw : Value) (ts : List ByteArray) (ws : List Int) (team : ByteArray) (who pn tn : Nat) (f : WF ts.length ws who pn tn) (hw : whoI ts team = (who : Int)) (h : WH w0 vt vw ts ws) (W : World) (be bw bp bt : Nat) (qq : Q5 w0 W vt vw ((pn : Int) + 1) (tn : Nat) be bw bp bt) (k : Int) : T3 Try.prog (fun a w => (0 ≤ k ∧ k < tn) ∧ (One W w) ∧ Fr 44 [(2, .string team), (5, .pointer (some ⟨be, 0, none⟩)), (6, .pointer (some ⟨bw, 0, none⟩)), (8, .pointer (some ⟨bp, 0, none⟩)), (9, .pointer (some ⟨bt, 0, none⟩)), (10, .pointer (some ⟨W.heap.size, 0, none⟩)), (11, .int .i64 ws.sum), (12, .int .i64 (ws.sum ^ (k : Int).toNat)), (28, .int .i64 (tn : Nat)), (29, .int .i64 k)] a) (sel [1, 1, 1, 0, 1, 4, 4, 1, 1, 0, 4] coR) (fun a w => (0 ≤ k ∧ k < tn) ∧ (One W w) ∧ Fr 44 [(2, .string team), (5, .pointer (some ⟨be, 0, none⟩)), (6, .pointer (some ⟨bw, 0, none⟩)), (8, .pointer (some ⟨bp, 0, none⟩)), (9, .pointer (some ⟨bt, 0, none⟩)), (10, .pointer (some ⟨W.heap.size, 0, none⟩)), (11, .int .i64 ws.sum), (12, .int .i64 (ws.sum ^ ((k + 1) : Int).toNat)), (28, .int .i64 (tn : Nat)), (29, .int .i64 k)] a) No 9 No := by
  refine T3.leaf ?_
  rintro Q JS JX JT K hS hK hX hE hT hR a w ⟨hpre, hW, ⟨fr, rfl, q2, q5, q6, q8, q9, q10, q11, q12, q28, q29, _⟩⟩
  have hpp := Lib.hid hpre
  obtain ⟨hk0, hk1⟩ := hpre
  have hsb := sum_b f
  have ht4 := f.ht
  have hb1 := pow_b hsb.1 hsb.2 k.toNat (by omega)
  have hb2 := pow_b hsb.1 hsb.2 (k.toNat + 1) (by omega)
  rw [Int.pow_succ] at hb2
  have HS := Lib.hid (show ws.sum ^ (k + 1).toNat = ws.sum ^ k.toNat * ws.sum by rw [show (k + 1).toNat = k.toNat + 1 by omega, Int.pow_succ])
  generalize ws.sum ^ k.toNat = pk at *
  generalize ws.sum ^ (k + 1).toNat = pk1 at *
  generalize ws.sum = sm at *
  rw [fr_coR, show fr 2 = _ from q2, show fr 5 = _ from q5, show fr 6 = _ from q6, show fr 8 = _ from q8, show fr 9 = _ from q9, show fr 10 = _ from q10, show fr 11 = _ from q11, show fr 12 = _ from q12, show fr 28 = _ from q28, show fr 29 = _ from q29]
  clear q2 q5 q6 q8 q9 q10 q11 q12 q28 q29
  conv => arg 2; whnf
  go_wp2_with fail
  refine Met.intro (hS _ _ ?_)
  rw [HS.out]
  exact ⟨hpp.out, hW, Fr.of _ rfl ⟨rfl, rfl, rfl, rfl, rfl, rfl, rfl, rfl, rfl, rfl, trivial⟩⟩

set_option maxRecDepth 100000 in
set_option maxHeartbeats 1000000 in
theorem co2b (w0 : World) (vt vw : Value) (ts : List ByteArray) (ws : List Int) (team : ByteArray) (who pn tn : Nat) (f : WF ts.length ws who pn tn) (hw : whoI ts team = (who : Int)) (h : WH w0 vt vw ts ws) (W : World) (be bw bp bt : Nat) (qq : Q5 w0 W vt vw ((pn : Int) + 1) (tn : Nat) be bw bp bt) (k : Int) : T3 Try.prog (fun a w => (0 ≤ k ∧ k < tn) ∧ (One W w) ∧ Fr 44 [(2, .string team), (5, .pointer (some ⟨be, 0, none⟩)), (6, .pointer (some ⟨bw, 0, none⟩)), (8, .pointer (some ⟨bp, 0, none⟩)), (9, .pointer (some ⟨bt, 0, none⟩)), (10, .pointer (some ⟨W.heap.size, 0, none⟩)), (11, .int .i64 ws.sum), (12, .int .i64 (ws.sum ^ (k : Int).toNat)), (28, .int .i64 (tn : Nat)), (29, .int .i64 k)] a) (sel [1, 1, 1, 0, 1, 4, 4, 1, 1, 0] coR) (fun a w => (0 ≤ k ∧ k < tn) ∧ (One W w) ∧ Fr 44 [(2, .string team), (5, .pointer (some ⟨be, 0, none⟩)), (6, .pointer (some ⟨bw, 0, none⟩)), (8, .pointer (some ⟨bp, 0, none⟩)), (9, .pointer (some ⟨bt, 0, none⟩)), (10, .pointer (some ⟨W.heap.size, 0, none⟩)), (11, .int .i64 ws.sum), (12, .int .i64 (ws.sum ^ ((k + 1) : Int).toNat)), (28, .int .i64 (tn : Nat)), (29, .int .i64 k)] a) No 9 No := T3.block (id' := 3) (c := (sel [1, 1, 1, 0, 1, 4, 4, 1, 1, 0, 4] coR)) (by decide) (co9 w0 vt vw ts ws team who pn tn f hw h W be bw bp bt qq k)

def coBI (w0 : World) (vt vw : Value) (ts : List ByteArray) (ws : List Int) (team : ByteArray) (who pn tn : Nat) (f : WF ts.length ws who pn tn) (hw : whoI ts team = (who : Int)) (h : WH w0 vt vw ts ws) (W : World) (be bw bp bt : Nat) (qq : Q5 w0 W vt vw ((pn : Int) + 1) (tn : Nat) be bw bp bt) (k : Int) (a : Act) (w : World) : Prop := (0 ≤ k ∧ k ≤ tn) ∧ (One W w) ∧ Fr 44 [(2, .string team), (5, .pointer (some ⟨be, 0, none⟩)), (6, .pointer (some ⟨bw, 0, none⟩)), (8, .pointer (some ⟨bp, 0, none⟩)), (9, .pointer (some ⟨bt, 0, none⟩)), (10, .pointer (some ⟨W.heap.size, 0, none⟩)), (11, .int .i64 ws.sum), (12, .int .i64 (ws.sum ^ (k : Int).toNat)), (28, .int .i64 (tn : Nat)), (29, .int .i64 k)] a
set_option maxRecDepth 100000 in
set_option maxHeartbeats 1000000 in
theorem coBt (w0 : World) (vt vw : Value) (ts : List ByteArray) (ws : List Int) (team : ByteArray) (who pn tn : Nat) (f : WF ts.length ws who pn tn) (hw : whoI ts team = (who : Int)) (h : WH w0 vt vw ts ws) (W : World) (be bw bp bt : Nat) (qq : Q5 w0 W vt vw ((pn : Int) + 1) (tn : Nat) be bw bp bt) (k : Int) : T3 Try.prog (fun a w => coBI w0 vt vw ts ws team who pn tn f hw h W be bw bp bt qq k a w) (sel [1, 1, 1, 0, 1, 4, 4, 0] coR) (fun a w => ∃ q, Fr 44 ((30, .bool q) :: [(29, .int .i64 k)]) a ∧ ((q = true ↔ k < tn) ∧ coBI w0 vt vw ts ws team who pn tn f hw h W be bw bp bt qq k a w)) No 9 No := by
  refine T3.leaf ?_
  rintro Q JS JX JT K hS hK hX hE hT hR a w ⟨hk, hW, ⟨fr, rfl, q2, q5, q6, q8, q9, q10, q11, q12, q28, q29, _⟩⟩
  have ht4 := f.ht
  rw [fr_coR, show fr 2 = _ from q2, show fr 5 = _ from q5, show fr 6 = _ from q6, show fr 8 = _ from q8, show fr 9 = _ from q9, show fr 10 = _ from q10, show fr 11 = _ from q11, show fr 12 = _ from q12, show fr 28 = _ from q28, show fr 29 = _ from q29]
  clear q2 q5 q6 q8 q9 q10 q11 q12 q28 q29
  conv => arg 2; whnf
  by_cases hlt : k < tn
  · go_wp2_with fail
    refine Met.intro (hS _ _ ?_)
    exact ⟨true, Fr.of _ rfl ⟨rfl, rfl, trivial⟩, ⟨fun _ => hlt, fun _ => rfl⟩, hk, hW, Fr.of _ rfl ⟨rfl, rfl, rfl, rfl, rfl, rfl, rfl, rfl, rfl, rfl, trivial⟩⟩
  · have hpb : decide (k < (tn)) = false := by simp; omega
    go_wp2_with fail
    refine Met.intro (hS _ _ ?_)
    exact ⟨false, Fr.of _ rfl ⟨rfl, rfl, trivial⟩, ⟨(fun h => by cases h), fun h => absurd h (by omega)⟩, hk, hW, Fr.of _ rfl ⟨rfl, rfl, rfl, rfl, rfl, rfl, rfl, rfl, rfl, rfl, trivial⟩⟩

set_option maxRecDepth 100000 in
set_option maxHeartbeats 1000000 in
theorem coBn (w0 : World) (vt vw : Value) (ts : List ByteArray) (ws : List Int) (team : ByteArray) (who pn tn : Nat) (f : WF ts.length ws who pn tn) (hw : whoI ts team = (who : Int)) (h : WH w0 vt vw ts ws) (W : World) (be bw bp bt : Nat) (qq : Q5 w0 W vt vw ((pn : Int) + 1) (tn : Nat) be bw bp bt) (k : Int) : T3 Try.prog (fun a w => (0 ≤ k ∧ k < tn) ∧ (One W w) ∧ Fr 44 [(2, .string team), (5, .pointer (some ⟨be, 0, none⟩)), (6, .pointer (some ⟨bw, 0, none⟩)), (8, .pointer (some ⟨bp, 0, none⟩)), (9, .pointer (some ⟨bt, 0, none⟩)), (10, .pointer (some ⟨W.heap.size, 0, none⟩)), (11, .int .i64 ws.sum), (12, .int .i64 (ws.sum ^ ((k + 1) : Int).toNat)), (28, .int .i64 (tn : Nat)), (29, .int .i64 k)] a) (sel [1, 1, 1, 0, 1, 4, 4, 1, 1, 1] coR) (fun a w => coBI w0 vt vw ts ws team who pn tn f hw h W be bw bp bt qq (k + 1) a w) No 9 No := by
  refine T3.leaf ?_
  rintro Q JS JX JT K hS hK hX hE hT hR a w ⟨hk, hW, ⟨fr, rfl, q2, q5, q6, q8, q9, q10, q11, q12, q28, q29, _⟩⟩
  obtain ⟨hk0, hk1⟩ := hk
  have ht4 := f.ht
  rw [fr_coR, show fr 2 = _ from q2, show fr 5 = _ from q5, show fr 6 = _ from q6, show fr 8 = _ from q8, show fr 9 = _ from q9, show fr 10 = _ from q10, show fr 11 = _ from q11, show fr 12 = _ from q12, show fr 28 = _ from q28, show fr 29 = _ from q29]
  clear q2 q5 q6 q8 q9 q10 q11 q12 q28 q29
  conv => arg 2; whnf
  go_wp2_with fail
  refine Met.intro (hS _ _ ?_)
  exact ⟨⟨by omega, by omega⟩, hW, Fr.of _ rfl ⟨rfl, rfl, rfl, rfl, rfl, rfl, rfl, rfl, rfl, rfl, trivial⟩⟩

set_option maxRecDepth 100000 in
set_option maxHeartbeats 1000000 in
theorem coBloop (w0 : World) (vt vw : Value) (ts : List ByteArray) (ws : List Int) (team : ByteArray) (who pn tn : Nat) (f : WF ts.length ws who pn tn) (hw : whoI ts team = (who : Int)) (h : WH w0 vt vw ts ws) (W : World) (be bw bp bt : Nat) (qq : Q5 w0 W vt vw ((pn : Int) + 1) (tn : Nat) be bw bp bt) : T3 Try.prog (fun a w => coBI w0 vt vw ts ws team who pn tn f hw h W be bw bp bt qq 0 a w) (sel [1, 1, 1, 0, 1] coR) (fun a w => (One W w) ∧ Fr 44 [(2, .string team), (5, .pointer (some ⟨be, 0, none⟩)), (6, .pointer (some ⟨bw, 0, none⟩)), (8, .pointer (some ⟨bp, 0, none⟩)), (9, .pointer (some ⟨bt, 0, none⟩)), (10, .pointer (some ⟨W.heap.size, 0, none⟩)), (12, .int .i64 (ws.sum ^ tn))] a) No 9 No := by
  refine T3.loop (c := (sel [1, 1, 1, 0, 1, 4, 4] coR)) (fun ng_ a w => ∃ k : Int, (ng_ : Int) = tn - k ∧ coBI w0 vt vw ts ws team who pn tn f hw h W be bw bp bt qq k a w) (fun a w h => ⟨(tn : Int).toNat, 0, by have := h.1.2; omega, h⟩) (fun ng_ => T3.ex fun k => T3.pure fun hng_ => ?_)
  refine T3.seq (s := (sel [1, 1, 1, 0, 1, 4, 4, 0] coR)) (c := (sel [1, 1, 1, 0, 1, 4, 4, 1] coR)) ((coBt w0 vt vw ts ws team who pn tn f hw h W be bw bp bt qq k).noX) ?_
  refine T3.seq (s := (sel [1, 1, 1, 0, 1, 4, 4, 1, 0] coR)) (c := (sel [1, 1, 1, 0, 1, 4, 4, 1, 1] coR)) (S := fun a w => (0 ≤ k ∧ k < tn) ∧ (One W w) ∧ Fr 44 [(2, .string team), (5, .pointer (some ⟨be, 0, none⟩)), (6, .pointer (some ⟨bw, 0, none⟩)), (8, .pointer (some ⟨bp, 0, none⟩)), (9, .pointer (some ⟨bt, 0, none⟩)), (10, .pointer (some ⟨W.heap.size, 0, none⟩)), (11, .int .i64 ws.sum), (12, .int .i64 (ws.sum ^ (k : Int).toNat)), (28, .int .i64 (tn : Nat)), (29, .int .i64 k)] a) ?_ (T3.seq (s := (sel [1, 1, 1, 0, 1, 4, 4, 1, 1, 0] coR)) (c := (sel [1, 1, 1, 0, 1, 4, 4, 1, 1, 1] coR)) (S := fun a w => (0 ≤ k ∧ k < tn) ∧ (One W w) ∧ Fr 44 [(2, .string team), (5, .pointer (some ⟨be, 0, none⟩)), (6, .pointer (some ⟨bw, 0, none⟩)), (8, .pointer (some ⟨bp, 0, none⟩)), (9, .pointer (some ⟨bt, 0, none⟩)), (10, .pointer (some ⟨W.heap.size, 0, none⟩)), (11, .int .i64 ws.sum), (12, .int .i64 (ws.sum ^ ((k + 1) : Int).toNat)), (28, .int .i64 (tn : Nat)), (29, .int .i64 k)] a) (T3.noX (co2b w0 vt vw ts ws team who pn tn f hw h W be bw bp bt qq k)) ?_)
  · refine T3.cond (o := .tmp 30) (x := .skip) (y := .exit 2) (fun a w => k < tn ∧ coBI w0 vt vw ts ws team who pn tn f hw h W be bw bp bt qq k a w) (fun a w => ¬ k < tn ∧ coBI w0 vt vw ts ws team who pn tn f hw h W be bw bp bt qq k a w) ?_ (T3.skip ?_) (T3.exit ?_)
    · rintro a w ⟨q, hF, hq, hI⟩
      have he := hF.eval 30 (by decide) (v := .bool q) (by simp)
      cases q
      · exact .inr ⟨he, (fun h => by have := hq.2 h; cases this), hI⟩
      · exact .inl ⟨he, hq.1 rfl, hI⟩
    · rintro a w ⟨hlt, hk, hI⟩
      exact ⟨⟨hk.1, hlt⟩, hI⟩
    · rintro a w ⟨hlt, hk, hI⟩
      obtain rfl : k = tn := by omega
      obtain ⟨hW, hF⟩ := hI
      rw [show ((tn : Nat) : Int).toNat = tn by omega] at hF
      exact ⟨hW, hF.sub (by simp)⟩
  · intro a w hx
    have hk := hx.1
    exact (((coBn w0 vt vw ts ws team who pn tn f hw h W be bw bp bt qq k).noX).post (fun a w q => ⟨ng_ - 1, by omega, k + 1, by omega, q⟩)) a w hx
set_option maxRecDepth 100000 in
set_option maxHeartbeats 1000000 in
theorem co11 (w0 : World) (vt vw : Value) (ts : List ByteArray) (ws : List Int) (team : ByteArray) (who pn tn : Nat) (f : WF ts.length ws who pn tn) (hw : whoI ts team = (who : Int)) (h : WH w0 vt vw ts ws) (W : World) (be bw bp bt : Nat) (qq : Q5 w0 W vt vw ((pn : Int) + 1) (tn : Nat) be bw bp bt) : T3 Try.prog (fun a w => (One W w) ∧ Fr 44 [(2, .string team), (5, .pointer (some ⟨be, 0, none⟩)), (6, .pointer (some ⟨bw, 0, none⟩)), (8, .pointer (some ⟨bp, 0, none⟩)), (9, .pointer (some ⟨bt, 0, none⟩)), (10, .pointer (some ⟨W.heap.size, 0, none⟩)), (12, .int .i64 (ws.sum ^ tn))] a) (sel [1, 1, 1, 1, 0] coR) (fun a w => ∃ (bo : Nat), (Qo W w bo who) ∧ Fr 44 [(5, .pointer (some ⟨be, 0, none⟩)), (6, .pointer (some ⟨bw, 0, none⟩)), (8, .pointer (some ⟨bp, 0, none⟩)), (9, .pointer (some ⟨bt, 0, none⟩)), (10, .pointer (some ⟨W.heap.size, 0, none⟩)), (12, .int .i64 (ws.sum ^ tn)), (15, .pointer (some ⟨bo, 0, none⟩))] a) No 9 No := by
  refine T3.leaf ?_
  rintro Q JS JX JT K hS hK hX hE hT hR a w ⟨hW, ⟨fr, rfl, q2, q5, q6, q8, q9, q10, q12, _⟩⟩
  have ce := (hW.rc.bel.cell (p := ⟨be, 0, none⟩) (World.block_lt_of_cell? W _ qq.ce)).trans qq.ce
  have hbw := qq.bel.trans (hW.rc.bel.mono qq.bel.size)
  have HP := Lib.hid (index_str vt ts.length ts team 0 w (h.t.below hbw))
  rw [hw] at HP
  have HN := Lib.hid (put_new w (.int .i64 who) 3)
  have HW := Lib.hid hW
  have hlt := hW.lt
  have fw := f.hw
  have f14 := f.n14
  clear hW
  obtain ⟨p1, c1, hv1⟩ := h.t.shape
  subst hv1
  obtain ⟨p2, c2, hv2⟩ := h.w.shape
  subst hv2
  rw [fr_coR, show fr 2 = _ from q2, show fr 5 = _ from q5, show fr 6 = _ from q6, show fr 8 = _ from q8, show fr 9 = _ from q9, show fr 10 = _ from q10, show fr 12 = _ from q12]
  clear q2 q5 q6 q8 q9 q10 q12
  conv => arg 2; whnf
  go_wp2_with fail
  refine HP.out.mono ?_
  rintro e w1 ⟨rfl, rfl⟩
  go_wp2_with fail
  refine Met.intro (hS _ _ ?_)
  exact ⟨_, ⟨HN.out.1, HW.out.below HN.out.2.2, hlt⟩, Fr.of _ rfl ⟨rfl, rfl, rfl, rfl, rfl, rfl, rfl, trivial⟩⟩

set_option maxRecDepth 100000 in
set_option maxHeartbeats 1000000 in
theorem co12 (w0 : World) (vt vw : Value) (ts : List ByteArray) (ws : List Int) (team : ByteArray) (who pn tn : Nat) (f : WF ts.length ws who pn tn) (hw : whoI ts team = (who : Int)) (h : WH w0 vt vw ts ws) (W : World) (be bw bp bt : Nat) (qq : Q5 w0 W vt vw ((pn : Int) + 1) (tn : Nat) be bw bp bt) (bo : Nat) : T3 Try.prog (fun a w => (Qo W w bo who) ∧ Fr 44 [(5, .pointer (some ⟨be, 0, none⟩)), (6, .pointer (some ⟨bw, 0, none⟩)), (8, .pointer (some ⟨bp, 0, none⟩)), (9, .pointer (some ⟨bt, 0, none⟩)), (10, .pointer (some ⟨W.heap.size, 0, none⟩)), (12, .int .i64 (ws.sum ^ tn)), (15, .pointer (some ⟨bo, 0, none⟩))] a) (sel [1, 1, 1, 1, 1, 0] coR) (fun a w => ∃ (bg : Nat), (Qg W w bo bg who) ∧ Fr 44 [(5, .pointer (some ⟨be, 0, none⟩)), (6, .pointer (some ⟨bw, 0, none⟩)), (8, .pointer (some ⟨bp, 0, none⟩)), (9, .pointer (some ⟨bt, 0, none⟩)), (10, .pointer (some ⟨W.heap.size, 0, none⟩)), (12, .int .i64 (ws.sum ^ tn)), (15, .pointer (some ⟨bo, 0, none⟩)), (16, .pointer (some ⟨bg, 0, none⟩))] a) No 9 No := by
  refine T3.leaf ?_
  rintro Q JS JX JT K hS hK hX hE hT hR a w ⟨hW, ⟨fr, rfl, q5, q6, q8, q9, q10, q12, q15, _⟩⟩
  have HN := Lib.hid (put_new w (.int .i64 0) 3)
  have HW := Lib.hid hW
  have hlt := hW.one.lt
  have hlo := World.block_lt_of_cell? w _ hW.co
  clear hW
  rw [fr_coR, show fr 5 = _ from q5, show fr 6 = _ from q6, show fr 8 = _ from q8, show fr 9 = _ from q9, show fr 10 = _ from q10, show fr 12 = _ from q12, show fr 15 = _ from q15]
  clear q5 q6 q8 q9 q10 q12 q15
  conv => arg 2; whnf
  go_wp2_with fail
  refine Met.intro (hS _ _ ?_)
  exact ⟨_, ⟨HW.out.below HN.out.2.2, HN.out.1, HN.out.2.1, hlt, (fun e => by change bo < w.heap.size at hlo; omega)⟩, Fr.of _ rfl ⟨rfl, rfl, rfl, rfl, rfl, rfl, rfl, rfl, trivial⟩⟩

theorem Qg.fresh {W w : World} {bo bg who : Nat} (h : Qg W w bo bg who) (z : Value) (e : TypeId) : Qf W (w.alloc (.cells #[z] e)) bo bg w.heap.size who := by
  have hlo := World.block_lt_of_cell? w _ h.o.co
  have hlg := World.block_lt_of_cell? w _ h.cg
  have hlt := h.o.one.lt
  simp only at hlo hlg
  exact ⟨h.below ((Below.refl _ _).alloc (Nat.le_refl _) _), ⟨z, cells_new w #[z] e 0 _ rfl⟩, frozen_new0 _ _ _ _, hlt, by omega, by omega⟩
set_option maxRecDepth 100000 in
set_option maxHeartbeats 1000000 in
theorem co13 (w0 : World) (vt vw : Value) (ts : List ByteArray) (ws : List Int) (team : ByteArray) (who pn tn : Nat) (f : WF ts.length ws who pn tn) (hw : whoI ts team = (who : Int)) (h : WH w0 vt vw ts ws) (W : World) (be bw bp bt : Nat) (qq : Q5 w0 W vt vw ((pn : Int) + 1) (tn : Nat) be bw bp bt) (bo : Nat) (bg : Nat) : T3 Try.prog (fun a w => (Qg W w bo bg who) ∧ Fr 44 [(5, .pointer (some ⟨be, 0, none⟩)), (6, .pointer (some ⟨bw, 0, none⟩)), (8, .pointer (some ⟨bp, 0, none⟩)), (9, .pointer (some ⟨bt, 0, none⟩)), (10, .pointer (some ⟨W.heap.size, 0, none⟩)), (12, .int .i64 (ws.sum ^ tn)), (15, .pointer (some ⟨bo, 0, none⟩)), (16, .pointer (some ⟨bg, 0, none⟩))] a) (sel [1, 1, 1, 1, 1, 1, 0] coR) (fun a w => ∃ (bf : Nat), (Qf W w bo bg bf who) ∧ Fr 44 [(5, .pointer (some ⟨be, 0, none⟩)), (6, .pointer (some ⟨bw, 0, none⟩)), (8, .pointer (some ⟨bp, 0, none⟩)), (9, .pointer (some ⟨bt, 0, none⟩)), (10, .pointer (some ⟨W.heap.size, 0, none⟩)), (12, .int .i64 (ws.sum ^ tn)), (15, .pointer (some ⟨bo, 0, none⟩)), (16, .pointer (some ⟨bg, 0, none⟩)), (17, .pointer (some ⟨bf, 0, none⟩))] a) No 9 No := by
  refine T3.leaf ?_
  rintro Q JS JX JT K hS hK hX hE hT hR a w ⟨hW, ⟨fr, rfl, q5, q6, q8, q9, q10, q12, q15, q16, _⟩⟩
  rw [fr_coR, show fr 5 = _ from q5, show fr 6 = _ from q6, show fr 8 = _ from q8, show fr 9 = _ from q9, show fr 10 = _ from q10, show fr 12 = _ from q12, show fr 15 = _ from q15, show fr 16 = _ from q16]
  clear q5 q6 q8 q9 q10 q12 q15 q16
  conv => arg 2; whnf
  go_wp2_with fail
  refine Met.intro (hS _ _ ?_)
  exact ⟨_, hW.fresh _ _, Fr.of _ rfl ⟨rfl, rfl, rfl, rfl, rfl, rfl, rfl, rfl, rfl, trivial⟩⟩

theorem Qf.put {w0 W w : World} {vt vw : Value} {ts : List ByteArray} {ws : List Int} {who pn tn be bw bp bt bo bg bf : Nat} (f : WF ts.length ws who pn tn) (h : WH w0 vt vw ts ws) (q : Q5 w0 W vt vw ((pn : Int) + 1) (tn : Nat) be bw bp bt) (l : Qf W w bo bg bf who) :
    Qz W ⟨bt, bw, bf, be, bp, bo, bg⟩ ts.length ws vt vw tn pn who 0 (w.setCell ⟨bf, 0, none⟩ (.func (.func 50) #[] #[.pointer (some ⟨bt, 0, none⟩), .pointer (some ⟨bw, 0, none⟩), .pointer (some ⟨bf, 0, none⟩), .pointer (some ⟨be, 0, none⟩), .pointer (some ⟨bp, 0, none⟩), .pointer (some ⟨bo, 0, none⟩), .pointer (some ⟨bg, 0, none⟩)])) := by
  obtain ⟨z, cf⟩ := l.cf
  have gr := grown_setCell w bf 0 (.func (.func 50) #[] #[.pointer (some ⟨bt, 0, none⟩), .pointer (some ⟨bw, 0, none⟩), .pointer (some ⟨bf, 0, none⟩), .pointer (some ⟨be, 0, none⟩), .pointer (some ⟨bp, 0, none⟩), .pointer (some ⟨bo, 0, none⟩), .pointer (some ⟨bg, 0, none⟩)])
  have hone := l.g.o.one
  have kk : ∀ b v, W.cell? ⟨b, 0, none⟩ = some v → b < W.heap.size ∧ (w.setCell ⟨bf, 0, none⟩ (.func (.func 50) #[] #[.pointer (some ⟨bt, 0, none⟩), .pointer (some ⟨bw, 0, none⟩), .pointer (some ⟨bf, 0, none⟩), .pointer (some ⟨be, 0, none⟩), .pointer (some ⟨bp, 0, none⟩), .pointer (some ⟨bo, 0, none⟩), .pointer (some ⟨bg, 0, none⟩)])).cell? ⟨b, 0, none⟩ = some v := fun b v hb => by
    have hlt : b < W.heap.size := World.block_lt_of_cell? W _ hb
    have lb := l.lb
    exact ⟨hlt, (World.cell?_of_block (a := ⟨b, 0, none⟩) (gr.block b (Nat.lt_trans hlt hone.lt) (fun e => by have := Option.some.inj e; omega))).trans ((hone.rc.bel.cell (p := ⟨b, 0, none⟩) hlt).trans hb)⟩
  have ko : ∀ b v, w.cell? ⟨b, 0, none⟩ = some v → bf ≠ b → (w.setCell ⟨bf, 0, none⟩ (.func (.func 50) #[] #[.pointer (some ⟨bt, 0, none⟩), .pointer (some ⟨bw, 0, none⟩), .pointer (some ⟨bf, 0, none⟩), .pointer (some ⟨be, 0, none⟩), .pointer (some ⟨bp, 0, none⟩), .pointer (some ⟨bo, 0, none⟩), .pointer (some ⟨bg, 0, none⟩)])).cell? ⟨b, 0, none⟩ = some v := fun b v hb hne =>
    (World.cell?_of_block (a := ⟨b, 0, none⟩) (gr.block b (World.block_lt_of_cell? w _ hb) (fun e => hne (Option.some.inj e).symm))).trans hb
  have hbw := q.bel.trans (hone.rc.bel.mono q.bel.size)
  have lf := l.lb
  have lg := l.g.lb
  have hrow := f.len ▸ (h.w.below hbw)
  have hvl := row_lt h.w
  have hs0 := q.bel.size
  refine ⟨⟨(kk _ _ q.ct).2, (kk _ _ q.cw).2, World.cell?_setCell_same' _ _ _ (by rw [cf]; rfl), (kk _ _ q.ce).2, (kk _ _ q.cp).2, ko _ _ l.g.o.co l.n1, ko _ _ l.g.cg l.n2, (World.frozen?_setCell _ _ _ _).trans l.g.fg, ?_, h.t.shape, ?_, ?_, ?_, ?_, ?_, l.g.ne, ?_⟩, hone.grown gr (fun k e => by cases e; exact lf), lg⟩
  · exact hrow.swap (fun k hk => gr.block k (row_lt hrow k hk) (fun e => by have := Option.some.inj e; have := hvl k hk; omega)) gr.size
  · have := (kk _ _ q.ct).1
    show bg ≠ bt
    omega
  · have := (kk _ _ q.cw).1
    show bg ≠ bw
    omega
  · exact (Ne.symm l.n2)
  · have := (kk _ _ q.ce).1
    show bg ≠ be
    omega
  · have := (kk _ _ q.cp).1
    show bg ≠ bp
    omega
  · intro e
    have := hvl _ e
    show False
    simp only at this
    omega
set_option maxRecDepth 100000 in
set_option maxHeartbeats 1000000 in
theorem co14 (w0 : World) (vt vw : Value) (ts : List ByteArray) (ws : List Int) (team : ByteArray) (who pn tn : Nat) (f : WF ts.length ws who pn tn) (hw : whoI ts team = (who : Int)) (h : WH w0 vt vw ts ws) (W : World) (be bw bp bt : Nat) (qq : Q5 w0 W vt vw ((pn : Int) + 1) (tn : Nat) be bw bp bt) (bo : Nat) (bg : Nat) (bf : Nat) : T3 Try.prog (fun a w => (Qf W w bo bg bf who) ∧ Fr 44 [(5, .pointer (some ⟨be, 0, none⟩)), (6, .pointer (some ⟨bw, 0, none⟩)), (8, .pointer (some ⟨bp, 0, none⟩)), (9, .pointer (some ⟨bt, 0, none⟩)), (10, .pointer (some ⟨W.heap.size, 0, none⟩)), (12, .int .i64 (ws.sum ^ tn)), (15, .pointer (some ⟨bo, 0, none⟩)), (16, .pointer (some ⟨bg, 0, none⟩)), (17, .pointer (some ⟨bf, 0, none⟩))] a) (sel [1, 1, 1, 1, 1, 1, 1, 0] coR) (fun a w => (Qz W ⟨bt, bw, bf, be, bp, bo, bg⟩ ts.length ws vt vw tn pn who (0) w) ∧ Fr 44 [(10, .pointer (some ⟨W.heap.size, 0, none⟩)), (12, .int .i64 (ws.sum ^ tn)), (16, .pointer (some ⟨bg, 0, none⟩)), (17, .pointer (some ⟨bf, 0, none⟩))] a) No 9 No := by
  refine T3.leaf ?_
  rintro Q JS JX JT K hS hK hX hE hT hR a w ⟨hW, ⟨fr, rfl, q5, q6, q8, q9, q10, q12, q15, q16, q17, _⟩⟩
  obtain ⟨z, hz⟩ := hW.cf
  have hff := hW.ff
  have HR := Lib.hid (Qf.put f h qq hW)
  clear hW
  rw [fr_coR, show fr 5 = _ from q5, show fr 6 = _ from q6, show fr 8 = _ from q8, show fr 9 = _ from q9, show fr 10 = _ from q10, show fr 12 = _ from q12, show fr 15 = _ from q15, show fr 16 = _ from q16, show fr 17 = _ from q17]
  clear q5 q6 q8 q9 q10 q12 q15 q16 q17
  conv => arg 2; whnf
  go_wp2_with fail
  refine Met.intro (hS _ _ ?_)
  exact ⟨HR.out, Fr.of _ rfl ⟨rfl, rfl, rfl, rfl, trivial⟩⟩

set_option maxRecDepth 100000 in
set_option maxHeartbeats 1000000 in
theorem co15 (w0 : World) (vt vw : Value) (ts : List ByteArray) (ws : List Int) (team : ByteArray) (who pn tn : Nat) (f : WF ts.length ws who pn tn) (hw : whoI ts team = (who : Int)) (h : WH w0 vt vw ts ws) (W : World) (be bw bp bt : Nat) (qq : Q5 w0 W vt vw ((pn : Int) + 1) (tn : Nat) be bw bp bt) (bo : Nat) (bg : Nat) (bf : Nat) : T3 Try.prog (fun a w => (Qz W ⟨bt, bw, bf, be, bp, bo, bg⟩ ts.length ws vt vw tn pn who (0) w) ∧ Fr 44 [(10, .pointer (some ⟨W.heap.size, 0, none⟩)), (12, .int .i64 (ws.sum ^ tn)), (16, .pointer (some ⟨bg, 0, none⟩)), (17, .pointer (some ⟨bf, 0, none⟩))] a) (sel [1, 1, 1, 1, 1, 1, 1, 1, 0] coR) (fun a w => (Qz W ⟨bt, bw, bf, be, bp, bo, bg⟩ ts.length ws vt vw tn pn who (0 + 1 * chF (fun i => geti ws (i : Int)) ts.length pn who tn []) w) ∧ Fr 44 [(10, .pointer (some ⟨W.heap.size, 0, none⟩)), (12, .int .i64 (ws.sum ^ tn)), (16, .pointer (some ⟨bg, 0, none⟩))] a) No 9 No := by
  refine T3.leaf ?_
  rintro Q JS JX JT K hS hK hX hE hT hR a w ⟨hW, ⟨fr, rfl, q10, q12, q16, q17, _⟩⟩
  have hsb := sum_b f
  have ht4 := f.ht
  have hpw := pow_b hsb.1 hsb.2 tn ht4
  have HC := Lib.hid (cl_all tn w ⟨bt, bw, bf, be, bp, bo, bg⟩ ts.length ws vt vw tn pn who (.slice none 0 0) [] 1 0 ⟨f, Have.nil _, by simp, ⟨rfl, .inl ⟨rfl, rfl⟩⟩, by simp [Value.ownBlock], hW.cx, by omega, by omega, by omega⟩)
  have xf := hW.cx.cf
  have HW := Lib.hid hW
  clear hW
  simp only at HC xf
  generalize chF (fun i => geti ws (i : Int)) ts.length pn who tn [] = cv at *
  rw [fr_coR, show fr 10 = _ from q10, show fr 12 = _ from q12, show fr 16 = _ from q16, show fr 17 = _ from q17]
  clear q10 q12 q16 q17
  conv => arg 2; whnf
  go_wp2_with fail
  refine HC.out.mono ?_
  rintro e w1 ⟨rfl, hcw⟩
  have HZ := Lib.hid (show Qz W ⟨bt, bw, bf, be, bp, bo, bg⟩ ts.length ws vt vw tn pn who (0 + 1 * cv) w1 from ⟨hcw.cx, HW.out.one.grown hcw.gr (fun k e => by cases e; exact HW.out.lb), HW.out.lb⟩)
  clear hcw
  go_wp2_with fail
  refine Met.intro (hS _ _ ?_)
  exact ⟨HZ.out, Fr.of _ rfl ⟨rfl, rfl, rfl, trivial⟩⟩

set_option maxRecDepth 100000 in
set_option maxHeartbeats 1000000 in
theorem co16 (w0 : World) (vt vw : Value) (ts : List ByteArray) (ws : List Int) (team : ByteArray) (who pn tn : Nat) (f : WF ts.length ws who pn tn) (hw : whoI ts team = (who : Int)) (h : WH w0 vt vw ts ws) (W : World) (be bw bp bt : Nat) (qq : Q5 w0 W vt vw ((pn : Int) + 1) (tn : Nat) be bw bp bt) (bo : Nat) (bg : Nat) (bf : Nat) : T3 Try.prog (fun a w => (Qz W ⟨bt, bw, bf, be, bp, bo, bg⟩ ts.length ws vt vw tn pn who (0 + 1 * chF (fun i => geti ws (i : Int)) ts.length pn who tn []) w) ∧ Fr 44 [(10, .pointer (some ⟨W.heap.size, 0, none⟩)), (12, .int .i64 (ws.sum ^ tn)), (16, .pointer (some ⟨bg, 0, none⟩))] a) (sel [1, 1, 1, 1, 1, 1, 1, 1, 1, 0] coR) (fun a w => (RC W w (fN (chF (fun i => geti ws (i : Int)) ts.length pn who tn []) (ws.sum ^ tn)) (fD (chF (fun i => geti ws (i : Int)) ts.length pn who tn []) (ws.sum ^ tn))) ∧ Fr 44 [(10, .pointer (some ⟨W.heap.size, 0, none⟩))] a) No 9 No := by
  refine T3.leaf ?_
  rintro Q JS JX JT K hS hK hX hE hT hR a w ⟨hW, ⟨fr, rfl, q10, q12, q16, _⟩⟩
  have hsb := sum_b f
  have ht4 := f.ht
  have hpw := pow_b hsb.1 hsb.2 tn ht4
  have hcb := chF_bound (place := pn) (who := who) (n := ts.length) (ws := fun i => geti ws (i : Int)) (fun i hi => by have := geti_lo f.lo (k := (i : Int)) (by omega) (by have := f.len; omega); omega) (Int.le_of_eq (sumN_ws ws ts.length f.len)) hsb.1 tn []
  have xg := hW.cx.cg
  have hone := hW.one
  clear hW
  simp only at xg
  generalize chF (fun i => geti ws (i : Int)) ts.length pn who tn [] = cv at *
  rw [show 0 + 1 * cv = cv by omega] at xg
  generalize ws.sum ^ tn = al at *
  rw [fr_coR, show fr 10 = _ from q10, show fr 12 = _ from q12, show fr 16 = _ from q16]
  clear q10 q12 q16
  conv => arg 2; whnf
  go_wp2_with fail
  refine (lowestG_ref cv al w (by omega) (by omega) (by omega) (by omega)).mono ?_
  rintro e w2 ⟨rfl, hB⟩
  have h2 := hone.below hB
  clear hB hone xg
  have c0 := h2.rc.c0
  have c1 := h2.rc.c1
  have f0 := h2.f0
  have f1 := h2.f1
  have HR := Lib.hid (h2.put (fN cv al) (fD cv al))
  clear h2
  go_wp2_with fail
  refine Met.intro (hS _ _ ?_)
  exact ⟨HR.out, Fr.of _ rfl ⟨rfl, trivial⟩⟩

set_option maxRecDepth 100000 in
set_option maxHeartbeats 1000000 in
theorem co_all (w0 : World) (vt vw : Value) (ts : List ByteArray) (ws : List Int) (team : ByteArray) (who pn tn : Nat) (f : WF ts.length ws who pn tn) (hw : whoI ts team = (who : Int)) (h : WH w0 vt vw ts ws) : T3 Try.prog (fun a w => (IsW w0 w) ∧ Fr 44 [(0, vt), (1, vw), (2, .string team), (3, .int .i64 ((pn : Int) + 1)), (4, .int .i64 (tn : Nat))] a) coR No No 9 (fun a w => ∃ W : World, (Below w0.heap.size w0 W) ∧ Fr 44 [(10, .pointer (some ⟨W.heap.size, 0, none⟩))] a ∧ RC W w (fN (chF (fun i => geti ws (i : Int)) ts.length pn who tn []) (ws.sum ^ tn)) (fD (chF (fun i => geti ws (i : Int)) ts.length pn who tn []) (ws.sum ^ tn))) := by
  refine T3.seq (s := (sel [0] coR)) (c := (sel [1] coR)) ((co0 w0 vt vw ts ws team who pn tn f hw h).mono (fun _ _ q => q) (fun _ _ q => q) (fun _ _ q => q.elim) (fun _ _ q => q)) ?_
  refine T3.ex fun W => T3.ex fun be => T3.ex fun bw => T3.ex fun bp => T3.ex fun bt => T3.ex fun br => T3.pure fun hq => ?_
  obtain ⟨qq, rfl⟩ := hq
  refine T3.seq (s := (sel [1, 0] coR)) (c := (sel [1, 1] coR)) ((co1 w0 vt vw ts ws team who pn tn f hw h W be bw bp bt qq).mono (fun _ _ q => q) (fun _ _ q => q) (fun _ _ q => q.elim) (fun _ _ q => q)) ?_
  refine T3.seq (s := (sel [1, 1, 0] coR)) (c := (sel [1, 1, 1] coR)) (T3.seq (s := (sel [1, 1, 0, 0] coR)) (c := (sel [1, 1, 0, 1] coR)) ((co2 w0 vt vw ts ws team who pn tn f hw h W be bw bp bt qq).mono (fun _ _ q => q) (fun _ _ q => q) (fun _ _ q => q.elim) (fun _ _ q => q)) ((coAloop w0 vt vw ts ws team who pn tn f hw h W be bw bp bt qq).mono (fun _ _ q => q) (fun _ _ q => q) (fun _ _ q => q.elim) (fun _ _ q => q))) ?_
  refine T3.seq (s := (sel [1, 1, 1, 0] coR)) (c := (sel [1, 1, 1, 1] coR)) (T3.seq (s := (sel [1, 1, 1, 0, 0] coR)) (c := (sel [1, 1, 1, 0, 1] coR)) ((co7 w0 vt vw ts ws team who pn tn f hw h W be bw bp bt qq).mono (fun _ _ q => q) (fun _ _ q => q) (fun _ _ q => q.elim) (fun _ _ q => q)) ((coBloop w0 vt vw ts ws team who pn tn f hw h W be bw bp bt qq).mono (fun _ _ q => q) (fun _ _ q => q) (fun _ _ q => q.elim) (fun _ _ q => q))) ?_
  refine T3.seq (s := (sel [1, 1, 1, 1, 0] coR)) (c := (sel [1, 1, 1, 1, 1] coR)) ((co11 w0 vt vw ts ws team who pn tn f hw h W be bw bp bt qq).mono (fun _ _ q => q) (fun _ _ q => q) (fun _ _ q => q.elim) (fun _ _ q => q)) ?_
  refine T3.ex fun bo => ?_
  refine T3.seq (s := (sel [1, 1, 1, 1, 1, 0] coR)) (c := (sel [1, 1, 1, 1, 1, 1] coR)) ((co12 w0 vt vw ts ws team who pn tn f hw h W be bw bp bt qq bo).mono (fun _ _ q => q) (fun _ _ q => q) (fun _ _ q => q.elim) (fun _ _ q => q)) ?_
  refine T3.ex fun bg => ?_
  refine T3.seq (s := (sel [1, 1, 1, 1, 1, 1, 0] coR)) (c := (sel [1, 1, 1, 1, 1, 1, 1] coR)) ((co13 w0 vt vw ts ws team who pn tn f hw h W be bw bp bt qq bo bg).mono (fun _ _ q => q) (fun _ _ q => q) (fun _ _ q => q.elim) (fun _ _ q => q)) ?_
  refine T3.ex fun bf => ?_
  refine T3.seq (s := (sel [1, 1, 1, 1, 1, 1, 1, 0] coR)) (c := (sel [1, 1, 1, 1, 1, 1, 1, 1] coR)) ((co14 w0 vt vw ts ws team who pn tn f hw h W be bw bp bt qq bo bg bf).mono (fun _ _ q => q) (fun _ _ q => q) (fun _ _ q => q.elim) (fun _ _ q => q)) ?_
  refine T3.seq (s := (sel [1, 1, 1, 1, 1, 1, 1, 1, 0] coR)) (c := (sel [1, 1, 1, 1, 1, 1, 1, 1, 1] coR)) ((co15 w0 vt vw ts ws team who pn tn f hw h W be bw bp bt qq bo bg bf).mono (fun _ _ q => q) (fun _ _ q => q) (fun _ _ q => q.elim) (fun _ _ q => q)) ?_
  exact T3.seq (s := (sel [1, 1, 1, 1, 1, 1, 1, 1, 1, 0] coR)) (c := .ret) ((co16 w0 vt vw ts ws team who pn tn f hw h W be bw bp bt qq bo bg bf).mono (fun _ _ q => q) (fun _ _ q => q) (fun _ _ q => q.elim) (fun _ _ q => q)) (T3.ret fun a w r => ⟨W, qq.bel, r.2, r.1⟩)

theorem way_ch {nt who pn tn : Nat} {ws : List Int} (f : WF nt ws who pn tn) : wayF (fun i => geti ws (i : Int)) nt pn who tn [] = chF (fun i => geti ws (i : Int)) nt pn who tn [] :=
  wayF_eq _ _ _ _ f.hw tn [] (Have.nil _) (by simp; exact f.tn) f.hp (fun k x hx => by simp at hx)
set_option maxRecDepth 100000 in
set_option maxHeartbeats 1000000 in
theorem chance_ref (w0 : World) (vt vw : Value) (ts : List ByteArray) (ws : List Int) (team : ByteArray) (place top : Int) (h : WH w0 vt vw ts ws) (hE : chanceE ts ws team place top = 0) :
    Calls Try.prog 20 #[vt, vw, .string team, .int .i64 place, .int .i64 top] w0 fun e w' => e = .returned (.agg #[.int .i64 (chN ts ws team place top), .int .i64 (chD ts ws team place top)]) ∧ Below w0.heap.size w0 w' := by
  have h1 : topE ts ws top = 0 := Decidable.byContradiction fun h0 => by rw [ch_top h0] at hE; exact h0 hE
  have h2 : hasS ts team = true := by
    cases hh : hasS ts team
    · rw [ch_none h1 hh] at hE; cases hE
    · rfl
  have h3 : outB place 1 ts.length = false := by
    cases hh : outB place 1 ts.length
    · rfl
    · rw [ch_arg h1 h2 hh] at hE; cases hE
  obtain ⟨f, hw0, hp1, ht0⟩ := ch_wf h1 h2 h3
  have hcn : chN ts ws team place top = fN (chF (fun i => geti ws (i : Int)) ts.length (place - 1).toNat (whoI ts team).toNat top.toNat []) (ws.sum ^ top.toNat) := by
    unfold chN wayV
    rw [if_pos hE, way_ch f]
  have hcd : chD ts ws team place top = fD (chF (fun i => geti ws (i : Int)) ts.length (place - 1).toNat (whoI ts team).toNat top.toNat []) (ws.sum ^ top.toNat) := by
    unfold chD wayV
    rw [if_pos hE, way_ch f]
  have e1 : (((place - 1).toNat : Nat) : Int) + 1 = place := by omega
  have e2 : ((top.toNat : Nat) : Int) = top := by omega
  have hall := co_all w0 vt vw ts ws team (whoI ts team).toNat (place - 1).toNat top.toNat f (by omega) h
  rw [e1, e2] at hall
  go_enter Try.func20, Try.ntmps20
  refine T3.done (s := coR) hall ⟨rfl, Fr.of _ rfl ⟨rfl, rfl, rfl, rfl, rfl, trivial⟩⟩ ?_
  rintro a w ⟨W, hb, ⟨fr, rfl, q10, _⟩, hW⟩
  have r0 := hW.c0
  have r1 := hW.c1
  rw [← hcn] at r0
  rw [← hcd] at r1
  rw [fr_coR, show fr 10 = _ from q10]
  exact bodyPost_ret (v := .agg #[.int .i64 (chN ts ws team place top), .int .i64 (chD ts ws team place top)]) (by simp [results, Try.results20, go_sem, r0, r1]) rfl ⟨rfl, hb.trans (hW.bel.mono hb.size)⟩
end Go.Proofs.Ytkdimgghljklmaa
/-
  The first of several errors. Condition: fewer than 2^40 of them.
-/
set_option linter.unusedVariables false
namespace Go.Proofs.Ytkdimgghljklmaa
open Go.RowKit Go.Bw
/-- The first that is not 0. -/
def errL : List Int → Int
  | [] => 0
  | a :: l => if a ≠ 0 then a else errL l
theorem errL_none : ∀ l : List Int, (∀ j : Int, 0 ≤ j → j < l.length → geti l j = 0) → errL l = 0
  | [], _ => rfl
  | a :: l, h => by
    have h0 : a = 0 := h 0 (by omega) (by simp <;> omega)
    rw [errL, if_neg (by simp [h0])]
    refine errL_none l fun j hj0 hj1 => ?_
    have := h (j + 1) (by omega) (by simp <;> omega)
    unfold geti at this ⊢
    rwa [show (j + 1).toNat = j.toNat + 1 by omega, List.getElem?_cons_succ] at this
theorem errL_at : ∀ (l : List Int) (k : Int), 0 ≤ k → k < l.length → (∀ j : Int, 0 ≤ j → j < k → geti l j = 0) → geti l k ≠ 0 → errL l = geti l k
  | [], k, h0, h1, _, _ => by simp at h1; omega
  | a :: l, k, h0, h1, h, hk => by
    by_cases hz : k = 0
    · subst hz
      have e : geti (a :: l) 0 = a := rfl
      rw [e] at hk ⊢
      rw [errL, if_pos hk]
    · have ha : a = 0 := h 0 (by omega) (by omega)
      have sh : ∀ j : Int, 0 ≤ j → geti (a :: l) (j + 1) = geti l j := fun j hj => by
        unfold geti
        rw [show (j + 1).toNat = j.toNat + 1 by omega, List.getElem?_cons_succ]
      have e := sh (k - 1) (by omega)
      rw [show k - 1 + 1 = k by omega] at e
      rw [errL, if_neg (by simp [ha]), e]
      refine errL_at l (k - 1) (by omega) (by simp at h1; omega) (fun j hj0 hj1 => ?_) (by rw [← e]; exact hk)
      rw [← sh j hj0]
      exact h (j + 1) (by omega) (by omega)
set_option maxRecDepth 100000 in
set_option maxHeartbeats 1000000 in
theorem errs_any (v : Value) (n : Nat) (l : List Int) (b0 : Nat) (w : World) (h : Row w b0 1 v n (l.map (.int .i64))) (hn : n ≤ 1099511627776) :
    Calls Try.prog 14 #[v] w fun e w' => e = .returned (.int .i64 (errL l)) ∧ w = w' := by
  obtain ⟨hl, hc⟩ := h.ints
  obtain ⟨p, c, hv⟩ := h.shape
  clear h
  have HL := Lib.hid hl
  subst hv
  go_enter Try.func14, Try.ntmps14
  clear hl
  go_wp2_with fail
  go_loop [7] (fun i => ∃ k : Int, 0 ≤ k ∧ k ≤ n ∧ i = .int .i64 k ∧ ∀ j : Int, 0 ≤ j → j < k → geti l j = 0) (fun i => n - (intOf i).toNat)
  case atStart => exact ⟨0, by omega, by omega, rfl, fun j h0 h1 => by omega⟩
  case round =>
    obtain ⟨k, hk0, hk1, rfl, hz⟩ := hrel
    by_cases hlt : k < n
    · rcases hc with ⟨hv, h0⟩ | ⟨b, off, cap, hv, _, hbs, hnc, hcm, hcell⟩
      · omega
      simp only [Value.slice.injEq] at hv
      obtain ⟨rfl, _, rfl⟩ := hv
      have c1 := hcell k hk0 hlt
      have HR := Lib.hid (fun hg : geti l k ≠ 0 => errL_at l k hk0 (by rw [HL.out]; exact hlt) hz hg)
      have HZ := Lib.hid hz
      clear hcell hz
      by_cases he : geti l k = 0
      · rw [he] at c1
        have HE := Lib.hid he
        clear he HR
        go_wp2_with fail
        go_round
        case rel => exact ⟨k + 1, by omega, by omega, rfl, fun j h0 h1 => by
          by_cases hj : j = k
          · rw [hj]; exact HE.out
          · exact HZ.out j h0 (by omega)⟩
        case measure => simp [intOf]; omega
      · have hr := HR.out he
        have HR2 := Lib.hid hr
        clear hr HR HZ
        generalize geti l k = x at *
        have hx : (x != 0) = true := by simp [he]
        clear he
        go_wp2_with fail
        go_ret
        exact ⟨ret_int HR2.out.symm, rfl⟩
    · have HE := Lib.hid (errL_none l fun j h0 h1 => hz j h0 (by have := HL.out; omega))
      clear hc hz
      go_wp2_with fail
      go_ret
      exact ⟨ret_int HE.out.symm, rfl⟩
/-- At a list that is written out. -/
theorem errs_lit (l : List Int) (n : Nat) (cs : Array Value) (e : TypeId) (w : World) (hcs : cs.toList = l.map (.int .i64)) (hl : l.length = n) (hn : n ≤ 1000) :
    Calls Try.prog 14 #[.slice (some ⟨w.heap.size, 0, none⟩) n n] (w.alloc (.cells cs e)) fun x w' => x = .returned (.int .i64 (errL l)) ∧ Below w.heap.size w w' := by
  refine (errs_any _ n l _ _ (lit_row w e l n (by omega) hl cs hcs) (by omega)).mono ?_
  rintro x w' ⟨rfl, rfl⟩
  exact ⟨rfl, (Below.refl _ _).alloc (Nat.le_refl _) _⟩
end Go.Proofs.Ytkdimgghljklmaa
/-
  An error, if something is so. No condition.
-/
set_option linter.unusedVariables false
namespace Go.Proofs.Ytkdimgghljklmaa
open Go.RowKit Go.Bw
theorem when_any (q : Bool) (x : Int) (w : World) :
    Calls Try.prog 18 #[.bool q, .int .i64 x] w fun e w' => e = .returned (.int .i64 (if q = true then x else 0)) ∧ w = w' := by
  cases q
  all_goals
    go_enter Try.func18, Try.ntmps18
    go_wp2_with fail
    go_ret
    exact ⟨rfl, rfl⟩
end Go.Proofs.Ytkdimgghljklmaa
/-
  The list of places of a bracket: the program's and the reference's. Condition: at most 64 seeds.
-/
set_option linter.unusedVariables false
namespace Go.Proofs.Ytkdimgghljklmaa
open Go.RowKit Go.Bw

theorem el_int : Elem Try.prog 22 3 (.int .i64 0) 1 8 := ⟨by kernel_rfl, by kernel_rfl, by kernel_rfl, by decide, by decide⟩

def nextL (n : Int) (l : List Int) : List Int := l.flatMap fun p => [p, 2 * n + 1 - p]
def brk (many : Int) : Nat → List Int → List Int
  | 0, l => l
  | f + 1, l => if (l.length : Int) < many then brk many f (nextL l.length l) else l
def bracketL (many : Int) : List Int := brk many 6 [1]
/-- The list as it stands with f rounds left at most. -/
def BrkIs (many : Int) (f : Nat) (l : List Int) : Prop := brk many f l = bracketL many ∧ l.length * 2 ^ f = 64 ∧ ∀ p ∈ l, 1 ≤ p ∧ p ≤ l.length

theorem nextL_length (n : Int) (l : List Int) : (nextL n l).length = 2 * l.length := by
  unfold nextL
  induction l with
  | nil => rfl
  | cons x l ih => simp [List.flatMap_cons, ih]; omega

theorem nextL_snoc (n : Int) (l : List Int) (p : Int) : nextL n (l ++ [p]) = nextL n l ++ [p, 2 * n + 1 - p] := by simp [nextL]

theorem BrkIs.start (many : Int) : BrkIs many 6 [1] := ⟨rfl, by decide, by simp⟩

theorem BrkIs.le {many : Int} {f : Nat} {l : List Int} (h : BrkIs many f l) : 1 ≤ l.length ∧ l.length ≤ 64 := by
  obtain ⟨_, h, _⟩ := h
  have h2 : 1 ≤ 2 ^ f := Nat.one_le_two_pow
  constructor
  · rcases Nat.eq_zero_or_pos l.length with h0 | h0
    · rw [h0] at h; omega
    · exact h0
  · exact h ▸ Nat.le_mul_of_pos_right _ h2

theorem BrkIs.step {many : Int} {f : Nat} {l : List Int} (h : BrkIs many f l) (hm : many ≤ 64) (hlt : (l.length : Int) < many) :
    ∃ f', f = f' + 1 ∧ BrkIs many f' (nextL l.length l) := by
  cases f with
  | zero => obtain ⟨_, h2, _⟩ := h; omega
  | succ f =>
    refine ⟨f, rfl, ?_, ?_, ?_⟩
    · have := h.1
      rw [brk, if_pos hlt] at this
      exact this
    · rw [nextL_length, ← h.2.1, Nat.pow_succ, Nat.mul_comm 2 l.length, Nat.mul_assoc, Nat.mul_comm 2 (2 ^ f)]
    · intro p hp
      rw [nextL_length]
      unfold nextL at hp
      obtain ⟨q, hq, hp⟩ := List.mem_flatMap.1 hp
      have := h.2.2 q hq
      simp at hp
      rcases hp with rfl | rfl <;> constructor <;> push_cast <;> omega

theorem BrkIs.done {many : Int} {f : Nat} {l : List Int} (h : BrkIs many f l) (hlt : many ≤ (l.length : Int)) : l = bracketL many := by
  have := h.1
  cases f with
  | zero => exact this
  | succ f => rw [brk, if_neg (by omega)] at this; exact this

theorem geti_mem {l : List Int} {i : Int} (h0 : 0 ≤ i) (h1 : i < l.length) : geti l i ∈ l := by
  unfold geti
  rw [List.getElem?_eq_getElem (by omega)]
  simp

/-- take, at an Int. -/
def takei (l : List Int) (i : Int) : List Int := l.take i.toNat
theorem takei_succ (l : List Int) (i : Int) (h0 : 0 ≤ i) (h1 : i < l.length) : takei l (i + 1) = takei l i ++ [geti l i] := by
  unfold takei geti
  rw [show (i + 1).toNat = i.toNat + 1 by omega, List.take_succ_eq_append_getElem (by omega), List.getElem?_eq_getElem (by omega)]
  rfl

theorem takei_all (l : List Int) (i : Int) (h : (l.length : Int) ≤ i) : takei l i = l := by
  unfold takei
  exact List.take_of_length_le (by omega)

set_option maxRecDepth 100000 in
set_option maxHeartbeats 1000000 in
theorem bracket_any (many : Int) (w : World) (hm : many ≤ 64) :
    Calls Try.prog 55 #[.int .i64 many] w fun e w' => ∃ g cap, e = .returned (.slice (some ⟨g, 0, none⟩) (bracketL many).length cap) ∧
      w'.ownsRow w.heap.size 3 1 (.slice (some ⟨g, 0, none⟩) (bracketL many).length cap) (bracketL many).length ((bracketL many).map (.int .i64)) ∧ Below w.heap.size w w' := by
  have hE := el_int
  go_enter Try.func55, Try.ntmps55
  go_wp2
  go_loopw [3] (fun v wr => ∃ (l : List Int) (f g cap : Nat), v = .slice (some ⟨g, 0, none⟩) l.length cap ∧ BrkIs many f l ∧
      wr.ownsRow w.heap.size 3 1 (.slice (some ⟨g, 0, none⟩) l.length cap) l.length (l.map (.int .i64)) ∧ Below w.heap.size w wr) (fun v _ => 64 - lenOf v)
  case atStart => exact ⟨[1], 6, _, _, rfl, BrkIs.start many, owns_lit w _ _ _ 1 (by omega) rfl (Nat.le_refl _), (Below.refl _ _).alloc (Nat.le_refl _) _⟩
  case round =>
    obtain ⟨l, f, g, cap, rfl, hbr, hown, hbel⟩ := hrel
    obtain ⟨hl1, hl64⟩ := hbr.le
    by_cases hlt : (l.length : Int) < many
    · obtain ⟨f', hf, hbr'⟩ := hbr.step hm hlt
      obtain ⟨wo, hwo⟩ : ∃ wo, wo = wr := ⟨_, rfl⟩
      subst hwo
      have hcell := ints_of_owns hown
      have hmem := hbr.2.2
      have hg := (hown.lt g rfl).2
      clear hf
      go_wp2
      go_loopw [4, 14] (fun v i wr => ∃ j : Int, 0 ≤ j ∧ j ≤ l.length ∧ i = .int .i64 j ∧ wr.ownsRow wo.heap.size 3 1 v (nextL l.length (takei l j)).length ((nextL l.length (takei l j)).map (.int .i64)) ∧ Below wo.heap.size wo wr) (fun _ i _ => l.length - (intOf i).toNat)
      case atStart => exact ⟨0, by omega, by omega, rfl, World.ownsRow_nil _ _ _ _, Below.refl _ _⟩
      case round =>
        obtain ⟨j, hj0, hj1, rfl, hown2, hbel2⟩ := hrel
        by_cases hjl : j < l.length
        · have hc : wr.cell? ⟨g, j.toNat, none⟩ = some (.int .i64 (geti l j)) := (hbel2.cell (p := ⟨g, j.toNat, none⟩) hg).trans (hcell j hj0 hjl)
          obtain ⟨hp1, hp2⟩ := hmem _ (geti_mem hj0 hjl)
          have hlen2 : (nextL l.length (takei l j)).length ≤ 128 := by rw [nextL_length]; unfold takei; simp; omega
          have hR : Hid _ := takei_succ l j hj0 hjl
          have hsz := hbel2.size
          clear hcell hmem
          go_wp2_with (at_builtin; go_loud (refine app_law rfl _ _ _ rfl hE (hown2.alloc _) rfl [.int .i64 (geti l j), .int .i64 (2 * l.length + 1 - geti l j)] rfl rfl (cells_new _ #[_, _] _) (by simp [Value.oneCell']) (by omega) (by simp; omega) ?_); intro v' w1 hown3 hgr)
          have hb3 := below_app hbel2 hown2 hgr (Nat.le_refl _) hsz
          have hn3 : (nextL l.length (takei l (j + 1))) = nextL l.length (takei l j) ++ [geti l j, 2 * l.length + 1 - geti l j] := by rw [hR.out, nextL_snoc]
          go_roundw
          case rel => exact ⟨j + 1, by omega, by omega, rfl, by rw [hn3]; simpa using hown3, hb3⟩
          case measure => simp [intOf]; omega
        · have hall := takei_all l j (by omega)
          rw [hall] at hown2
          obtain ⟨g2, cap2, hv2, hg2, _, _, _⟩ := owns_shape hown2 (by rw [nextL_length]; omega)
          subst hv2
          have hown4 := owns_mono hown2 hbel.size
          have hb4 := hbel.trans (hbel2.mono hbel.size)
          clear hown2 hall hcell hmem
          go_wp2
          go_roundw
          case rel => exact ⟨_, f', _, _, rfl, hbr', hown4, hb4⟩
          case measure => simp [lenOf]; rw [nextL_length]; omega
    · go_wp2
      go_ret
      have hd := hbr.done (by omega)
      subst hd
      exact ⟨_, _, rfl, hown, hbel⟩
set_option maxRecDepth 100000 in
set_option maxHeartbeats 1000000 in
theorem places_any (many : Int) (w : World) (hm : many ≤ 64) :
    Calls Try.prog 58 #[.int .i64 many] w fun e w' => ∃ g cap, e = .returned (.slice (some ⟨g, 0, none⟩) (bracketL many).length cap) ∧
      w'.ownsRow w.heap.size 3 1 (.slice (some ⟨g, 0, none⟩) (bracketL many).length cap) (bracketL many).length ((bracketL many).map (.int .i64)) ∧ Below w.heap.size w w' := by
  have hE := el_int
  go_enter Try.func58, Try.ntmps58
  go_wp2
  go_loopw [3] (fun v wr => ∃ (l : List Int) (f g cap : Nat), v = .slice (some ⟨g, 0, none⟩) l.length cap ∧ BrkIs many f l ∧
      wr.ownsRow w.heap.size 3 1 (.slice (some ⟨g, 0, none⟩) l.length cap) l.length (l.map (.int .i64)) ∧ Below w.heap.size w wr) (fun v _ => 64 - lenOf v)
  case atStart => exact ⟨[1], 6, _, _, rfl, BrkIs.start many, owns_lit w _ _ _ 1 (by omega) rfl (Nat.le_refl _), (Below.refl _ _).alloc (Nat.le_refl _) _⟩
  case round =>
    obtain ⟨l, f, g, cap, rfl, hbr, hown, hbel⟩ := hrel
    obtain ⟨hl1, hl64⟩ := hbr.le
    by_cases hlt : (l.length : Int) < many
    · obtain ⟨f', hf, hbr'⟩ := hbr.step hm hlt
      obtain ⟨wo, hwo⟩ : ∃ wo, wo = wr := ⟨_, rfl⟩
      subst hwo
      have hcell := ints_of_owns hown
      have hmem := hbr.2.2
      have hg := (hown.lt g rfl).2
      clear hf
      go_wp2
      go_loopw [5, 18] (fun v i wr => ∃ j : Int, 0 ≤ j ∧ j ≤ l.length ∧ i = .int .i64 j ∧ wr.ownsRow wo.heap.size 3 1 v (nextL l.length (takei l j)).length ((nextL l.length (takei l j)).map (.int .i64)) ∧ Below wo.heap.size wo wr) (fun _ i _ => l.length - (intOf i).toNat)
      case atStart => exact ⟨0, by omega, by omega, rfl, World.ownsRow_nil _ _ _ _, Below.refl _ _⟩
      case round =>
        obtain ⟨j, hj0, hj1, rfl, hown2, hbel2⟩ := hrel
        by_cases hjl : j < l.length
        · have hc : wr.cell? ⟨g, j.toNat, none⟩ = some (.int .i64 (geti l j)) := (hbel2.cell (p := ⟨g, j.toNat, none⟩) hg).trans (hcell j hj0 hjl)
          obtain ⟨hp1, hp2⟩ := hmem _ (geti_mem hj0 hjl)
          have hlen2 : (nextL l.length (takei l j)).length ≤ 128 := by rw [nextL_length]; unfold takei; simp; omega
          have hR : Hid _ := takei_succ l j hj0 hjl
          have hsz := hbel2.size
          clear hcell hmem
          go_wp2_with (at_builtin; go_loud (refine app_law rfl _ _ _ rfl hE (hown2.alloc _) rfl [.int .i64 (geti l j), .int .i64 (2 * l.length + 1 - geti l j)] rfl rfl (cells_new _ #[_, _] _) (by simp [Value.oneCell']) (by omega) (by simp; omega) ?_); intro v' w1 hown3 hgr)
          have hb3 := below_app hbel2 hown2 hgr (Nat.le_refl _) hsz
          have hn3 : (nextL l.length (takei l (j + 1))) = nextL l.length (takei l j) ++ [geti l j, 2 * l.length + 1 - geti l j] := by rw [hR.out, nextL_snoc]
          go_roundw
          case rel => exact ⟨j + 1, by omega, by omega, rfl, by rw [hn3]; simpa using hown3, hb3⟩
          case measure => simp [intOf]; omega
        · have hall := takei_all l j (by omega)
          rw [hall] at hown2
          obtain ⟨g2, cap2, hv2, hg2, _, _, _⟩ := owns_shape hown2 (by rw [nextL_length]; omega)
          subst hv2
          have hown4 := owns_mono hown2 hbel.size
          have hb4 := hbel.trans (hbel2.mono hbel.size)
          clear hown2 hall hcell hmem
          go_wp2
          go_roundw
          case rel => exact ⟨_, f', _, _, rfl, hbr', hown4, hb4⟩
          case measure => simp [lenOf]; rw [nextL_length]; omega
    · go_wp2
      go_ret
      have hd := hbr.done (by omega)
      subst hd
      exact ⟨_, _, rfl, hown, hbel⟩
end Go.Proofs.Ytkdimgghljklmaa
/-
  Rounds and Earliest: the program's and the reference's. Conditions: numbers of seeds as the functions check them.
-/
set_option linter.unusedVariables false
namespace Go.Proofs.Ytkdimgghljklmaa
open Go.RowKit Go.Bw

/-- The first place whose element satisfies p; -1: none. -/
def firstIdx {α : Type} (p : α → Bool) (l : List α) : Int := match l.findIdx? p with | some k => (k : Int) | none => -1

theorem firstIdx_found {α : Type} (p : α → Bool) (l : List α) (k : Nat) (hk : k < l.length) (h : p l[k] = true) (hb : ∀ j (hj : j < k), p (l[j]'(by omega)) = false) : firstIdx p l = k := by
  have : l.findIdx? p = some k := by
    rw [List.findIdx?_eq_some_iff_getElem]
    exact ⟨hk, h, fun j hj => by rw [hb j hj]; simp⟩
  unfold firstIdx
  rw [this]

theorem firstIdx_none {α : Type} (p : α → Bool) (l : List α) (hb : ∀ x ∈ l, p x = false) : firstIdx p l = -1 := by
  have : l.findIdx? p = none := by
    rw [List.findIdx?_eq_none_iff]
    exact hb
  unfold firstIdx
  rw [this]

def idxI (l : List Int) (v : Int) : Int := firstIdx (fun x => x == v) l

theorem idxI_found (l : List Int) (v i : Int) (h0 : 0 ≤ i) (h1 : i < l.length) (h : v = geti l i) (hb : ∀ j : Int, 0 ≤ j → j < i → v ≠ geti l j) : idxI l v = i := by
  have := firstIdx_found (fun x => x == v) l i.toNat (by omega) (by simp [h, geti, List.getElem?_eq_getElem (show i.toNat < l.length by omega)]) (fun j hj => by
    have := hb j (by omega) (by omega)
    simp only [geti, Int.toNat_natCast, List.getElem?_eq_getElem (show j < l.length by omega), Option.getD_some] at this
    simpa using Ne.symm this)
  unfold idxI
  rw [this]
  omega

theorem idxI_none (l : List Int) (v : Int) (hb : ∀ j : Int, 0 ≤ j → j < l.length → v ≠ geti l j) : idxI l v = -1 := by
  refine firstIdx_none _ _ fun x hx => ?_
  obtain ⟨j, hj, rfl⟩ := List.getElem_of_mem hx
  have := hb j (by omega) (by omega)
  simp only [geti, Int.toNat_natCast, List.getElem?_eq_getElem hj, Option.getD_some] at this
  simpa using Ne.symm this

/-- What is not among the first i. -/
def NotYet (l : List Int) (v i : Int) : Prop := ∀ j : Int, 0 ≤ j → j < i → v ≠ geti l j
theorem NotYet.step {l : List Int} {v i : Int} (h : NotYet l v i) (hn : ¬ v = geti l i) : NotYet l v (i + 1) := fun j h0 h1 => by
  by_cases e : j = i
  · subst e; exact hn
  · exact h j h0 (by omega)

set_option maxHeartbeats 400000 in
theorem index_int (v : Value) (n : Nat) (l : List Int) (x : Int) (base : Nat) (w : World) (h : Row w base 1 v n (l.map (.int .i64))) :
    Calls Try.prog 77 #[v, .int .i64 x] w fun e w' => e = .returned (.int .i64 (idxI l x)) ∧ w = w' := by
  obtain ⟨hlen, hcase⟩ := h.ints
  have hv : ∃ a cap, v = .slice a n cap := by
    rcases hcase with ⟨rfl, rfl⟩ | ⟨bz, off, cap, rfl, _⟩ <;> exact ⟨_, _, rfl⟩
  have hm : n ≤ 9223372036854775807 := by
    rcases hcase with ⟨_, rfl⟩ | ⟨bz, off, cap, _, _, _, h1, h2, _⟩
    · omega
    · unfold maxLen at h2; omega
  obtain ⟨a, cap, rfl⟩ := hv
  subst hlen
  clear h
  go_enter Try.func77, Try.ntmps77
  go_wp2
  go_loop [8] (fun i => ∃ k : Int, 0 ≤ k ∧ k ≤ l.length ∧ i = .int .i64 k ∧ NotYet l x k) (fun i => l.length - (intOf i).toNat)
  case atStart => exact ⟨0, by omega, by omega, rfl, fun _ _ _ => by omega⟩
  case round =>
    obtain ⟨k, hk0, hk1, rfl, hny⟩ := hrel
    by_cases hlt : k < l.length
    · rcases hcase with ⟨h, h0⟩ | ⟨bz, off, cap', h, hbb, hbs, hnc, hcm, hcell⟩
      · omega
      · simp only [Value.slice.injEq] at h
        obtain ⟨rfl, _, rfl⟩ := h
        have hc := hcell k hk0 hlt
        clear hcell
        by_cases hx : x = geti l k
        · have hf := Lib.hid (idxI_found l x k hk0 hlt hx hny)
          have hx' : (x == geti l k) = true := by simp [hx]
          clear hx hny
          go_wp2
          go_ret
          exact ⟨ret_int hf.out.symm, rfl⟩
        · have hny' := hny.step hx
          have hx' : (x == geti l k) = false := by simp [hx]
          clear hx hny
          go_wp2
          go_round
          case rel => exact ⟨k + 1, by omega, by omega, rfl, hny'⟩
          case measure => simp [intOf]; omega
    · have hf := Lib.hid (idxI_none l x (fun j h0 h1 => hny j h0 (by omega)))
      clear hny hcase
      go_wp2
      go_ret
      exact ⟨ret_int hf.out.symm, rfl⟩

theorem idxI_nonneg (l : List Int) (v : Int) : -1 ≤ idxI l v ∧ idxI l v < 2 ^ 63 ∨ (2 : Int) ^ 63 ≤ l.length := by
  unfold idxI firstIdx
  split
  · rename_i k h
    have := (List.findIdx?_eq_some_iff_getElem.1 h).1
    omega
  · omega

def hasI (l : List Int) (v : Int) : Bool := decide (0 ≤ idxI l v)

set_option maxHeartbeats 400000 in
theorem contains_int (v : Value) (n : Nat) (l : List Int) (x : Int) (base : Nat) (w : World) (h : Row w base 1 v n (l.map (.int .i64))) :
    Calls Try.prog 49 #[v, .int .i64 x] w fun e w' => e = .returned (.bool (hasI l x)) ∧ w = w' := by
  go_enter Try.func49, Try.ntmps49
  go_wp2_with (go_at_call 77; refine (index_int _ _ _ _ _ _ h).mono ?_; rintro e w1 ⟨rfl, rfl⟩)
  go_ret
  exact ⟨by simp [hasI], rfl⟩

def manyF (many : Int) : Int := if outB many 2 20 then 1 else 0
theorem manyF_bad {many : Int} (h : outB many 2 20 = true) : manyF many = 1 := by simp [manyF, h]
theorem manyF_ok {many : Int} (h : outB many 2 20 = false) : manyF many = 0 := by simp [manyF, h]
theorem manyF_ok' {many : Int} (h0 : 2 ≤ many) (h : many ≤ 20) : manyF many = 0 := manyF_ok (by simp [outB]; omega)

set_option maxHeartbeats 400000 in
theorem manyFault_prog (many : Int) (w : World) : Calls Try.prog 79 #[.int .i64 many] w fun e w' => e = .returned (.int .i64 (manyF many)) ∧ w = w' := by
  cases h : outB many 2 20
  · rw [manyF_ok h]
    go_enter Try.func79, Try.ntmps79
    go_wp2_with (go_at_call 42; refine (out_any _ _ _ _).mono ?_; rintro e w1 ⟨rfl, rfl⟩)
    go_ret
    exact ⟨rfl, rfl⟩
  · rw [manyF_bad h]
    go_enter Try.func79, Try.ntmps79
    go_wp2_with (go_at_call 42; refine (out_any _ _ _ _).mono ?_; rintro e w1 ⟨rfl, rfl⟩)
    go_ret
    exact ⟨rfl, rfl⟩

theorem outB_false {n low high : Int} (h : outB n low high = false) : low ≤ n ∧ n ≤ high := by
  simp [outB] at h; omega

/-- How many rounds there are. -/
def roundsF (many : Int) : Int := if many ≤ 1 then 0 else if many ≤ 2 then 1 else if many ≤ 4 then 2 else if many ≤ 8 then 3 else if many ≤ 16 then 4 else 5

theorem roundsF_le (many : Int) : 0 ≤ roundsF many ∧ roundsF many ≤ 5 := by
  unfold roundsF; repeat' split
  all_goals omega

theorem roundsF_step (many k : Int) (hm : many ≤ 20) (h0 : 0 ≤ k) (h : k ≤ 5) : ((2 : Int) ^ k.toNat < many → k + 1 ≤ roundsF many) ∧ (many ≤ (2 : Int) ^ k.toNat → roundsF many ≤ k) := by
  have hk : k = 0 ∨ k = 1 ∨ k = 2 ∨ k = 3 ∨ k = 4 ∨ k = 5 := by omega
  rcases hk with rfl | rfl | rfl | rfl | rfl | rfl
  all_goals
    unfold roundsF
    constructor
    all_goals
      intro h2
      simp at h2
      repeat' split
      all_goals omega

set_option maxHeartbeats 1000000 in
theorem rounds_prog (many : Int) (w : World) (h : many ≤ 20) : Calls Try.prog 56 #[.int .i64 many] w fun e w' => e = .returned (.int .i64 (roundsF many)) ∧ w = w' := by
  have hr := roundsF_le many
  go_enter Try.func56, Try.ntmps56
  go_wp2
  go_loop [3] (fun i => ∃ k : Int, 0 ≤ k ∧ k ≤ roundsF many ∧ i = .int .i64 k) (fun i => 6 - (intOf i).toNat)
  case atStart => exact ⟨0, by omega, by omega, rfl⟩
  case round =>
    obtain ⟨k, hk0, hk1, rfl⟩ := hrel
    have hk : k = 0 ∨ k = 1 ∨ k = 2 ∨ k = 3 ∨ k = 4 ∨ k = 5 := by omega
    have hst := Lib.hid (roundsF_step many k h hk0 (by omega))
    rcases hk with rfl | rfl | rfl | rfl | rfl | rfl
    all_goals go_wp2
    all_goals first
      | (go_ret; exact ⟨ret_int (by have := hst.out.2 (by simp; omega); omega), rfl⟩)
      | (go_round
         case rel => exact ⟨_, by omega, hst.out.1 (by simp; omega), rfl⟩
         case measure => simp [intOf])
    all_goals go_ways

def halv (k : Int) : Int := if k ≤ 1 then 0 else if k ≤ 3 then 1 else if k ≤ 7 then 2 else if k ≤ 15 then 3 else if k ≤ 31 then 4 else if k ≤ 63 then 5 else 6
theorem halv_step (k : Int) (h : 1 < k) (h' : k ≤ 64) : halv (k / 2) + 1 = halv k ∧ 1 ≤ k / 2 := by
  refine ⟨?_, by omega⟩
  unfold halv
  repeat' split
  all_goals omega
theorem halv_le (k : Int) : 0 ≤ halv k ∧ halv k ≤ 6 := by
  unfold halv; repeat' split
  all_goals omega
theorem halv_one (k : Int) (h : k ≤ 1) : halv k = 0 := by simp [halv, h]

theorem bracketL_length (many : Int) (h : 2 ≤ many) (h' : many ≤ 20) : halv (bracketL many).length = roundsF many ∧ ((bracketL many).length : Int) = 2 ^ (roundsF many).toNat ∧ (bracketL many).length ≤ 32 := by
  have : many = 2 ∨ many = 3 ∨ many = 4 ∨ many = 5 ∨ many = 6 ∨ many = 7 ∨ many = 8 ∨ many = 9 ∨ many = 10 ∨ many = 11 ∨ many = 12 ∨ many = 13 ∨ many = 14 ∨ many = 15 ∨ many = 16 ∨ many = 17 ∨ many = 18 ∨ many = 19 ∨ many = 20 := by omega
  rcases this with rfl | rfl | rfl | rfl | rfl | rfl | rfl | rfl | rfl | rfl | rfl | rfl | rfl | rfl | rfl | rfl | rfl | rfl | rfl
  all_goals decide +kernel

set_option maxHeartbeats 1000000 in
theorem rounds_ref (many : Int) (w : World) (h : 2 ≤ many) (h' : many ≤ 20) : Calls Try.prog 63 #[.int .i64 many] w fun e w' => e = .returned (.int .i64 (roundsF many)) ∧ Below w.heap.size w w' := by
  obtain ⟨hb1, hb2, hb3⟩ := bracketL_length many h h'
  have H1 := Lib.hid hb1
  have hL : ((bracketL many).length : Int) ≤ 32 := by omega
  have hL0 : (1 : Int) ≤ (bracketL many).length := by
    rw [hb2]
    have : 1 ≤ (2 : Nat) ^ (roundsF many).toNat := Nat.one_le_two_pow
    exact_mod_cast this
  have hr := roundsF_le many
  clear hb1 hb2 hb3
  go_enter Try.func63, Try.ntmps63
  go_wp2_with (go_at_call 55; refine (bracket_any _ _ (by omega)).mono ?_; rintro e w1 ⟨g, cap, rfl, hown, hbel⟩)
  clear hown
  go_loop [3, 4] (fun i j => ∃ n k : Int, 0 ≤ n ∧ n ≤ 6 ∧ 1 ≤ k ∧ k ≤ 64 ∧ i = .int .i64 n ∧ j = .int .i64 k ∧ Hid (halv k + n = roundsF many)) (fun i _ => 7 - (intOf i).toNat)
  case atStart => exact ⟨0, _, by omega, by omega, hL0, by omega, rfl, rfl, by show _ = _; rw [H1.out]; omega⟩
  case round =>
    obtain ⟨n, k, hn0, hn1, hk0, hk1, rfl, rfl, hh⟩ := hrel
    by_cases hlt : 1 < k
    · obtain ⟨hs, hs1⟩ := halv_step k hlt hk1
      have hh1 := hh.out
      have hl2 := halv_le (k / 2)
      have hn6 : n + 1 ≤ 6 := by omega
      have HH : Hid (halv (k / 2) + (n + 1) = roundsF many) := by show _ = _; omega
      have hk2 : k / 2 ≤ 64 := by omega
      clear hs hh1 hh
      go_wp2
      go_round
      case rel => exact ⟨_, _, by omega, by omega, hs1, by omega, rfl, rfl, HH⟩
      case measure => simp [intOf]; omega
    · have hh1 := hh.out
      rw [halv_one k (by omega)] at hh1
      have HH := Lib.hid hh1
      clear hh1 hh
      go_wp2
      go_ret
      exact ⟨ret_int (by have := HH.out; omega), hbel⟩

end Go.Proofs.Ytkdimgghljklmaa
