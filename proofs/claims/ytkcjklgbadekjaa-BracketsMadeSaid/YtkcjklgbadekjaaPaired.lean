/-
  The program's pairing of those who follow each other, by slices.Chunk. Conditions: an even number of at most 64 numbers, in a slice that is not nil.
-/
import Derived.Test.YtkcjklgbadekjaaGames
import Derived.Test.YtkcjklgbadekjaaBwRegIn
import Derived.RangeFuncBox
import Derived.RangeFuncLeaves
import Derived.Shelf.Abstract
import Derived.OwnWalkIn
import Derived.TacticsInMore
import Derived.LoopNIn
import Derived.LoopIn
import Derived.Maps.AppendAt
namespace Go.Proofs.Ytkcjklgbadekjaa
open Go.RowKit Go.Bw Go.Shelf

attribute [local go_sem] Oper.semAt_some

/-- The offsets 0, 2, .. of k pairs. -/
def offs (k : Nat) : List Int := (List.range k).map fun (j : Nat) => 2 * (j : Int)
theorem offs_succ (k : Nat) : offs (k + 1) = offs k ++ [2 * (k : Int)] := by simp [offs, List.range_succ]
theorem offs_length (k : Nat) : (offs k).length = k := by simp [offs]

set_option maxRecDepth 100000 in
set_option maxHeartbeats 1000000 in
theorem chunk_in (F : Fence) (n : Nat) (h5 : F.fn 86) (hro : F.round = none) (a : Option Addr) (len cap : Nat) (w : World) :
    CallsIn F n Try.prog 86 #[.slice a len cap, .int .i64 2] w fun e w' => e = .returned (.func (.func 96) #[] #[.pointer (some ⟨w.heap.size, 0, none⟩), .pointer (some ⟨w.heap.size + 1, 0, none⟩)]) ∧
      w' = (w.alloc (.cells #[.slice a len cap] 22)).alloc (.cells #[.int .i64 2] 3) := by
  refine callsIn_of_wp Try.func86 rfl h5 ?_ hro
  simp only [Try.ntmps86, List.size_toArray, List.length_cons, List.length_nil, Nat.reduceAdd, Nat.reduceSub, Array.replicate_succ, Array.replicate_zero, List.push_toArray, List.append_toArray, List.nil_append, List.cons_append]
  gi_wp2
  go_ret
  exact ⟨rfl, rfl⟩

/-- An offset of a pair. -/
abbrev Off (N : Nat) := { o : Int // 0 ≤ o ∧ o + 2 ≤ 2 * (N : Int) }

/-- What a round keeps: old blocks, and the two boxes of slices.Chunk. -/
def KpC (n₀ Bs Bn : Nat) (W W' : World) : Prop := Below n₀ W W' ∧ W'.heap[Bs]? = W.heap[Bs]? ∧ W'.heap[Bn]? = W.heap[Bn]?
theorem KpC.trans {n₀ Bs Bn : Nat} {A B C : World} (h : KpC n₀ Bs Bn A B) (k : KpC n₀ Bs Bn B C) : KpC n₀ Bs Bn A C := ⟨h.1.trans k.1, k.2.1.trans h.2.1, k.2.2.trans h.2.2⟩

set_option maxRecDepth 100000 in
set_option maxHeartbeats 2000000 in
theorem chunk1_in (F : Fence) (n : Nat) (h7 : F.fn 96) (hro : F.round = none) (hn : 1 ≤ n) (l Bs Bn n₀ b off cap N : Nat) (hN : N ≤ 32) (hcap : 2 * N ≤ cap) (hcm : cap ≤ 9223372036854775807) (J Jx : List (Off N) → World → Prop) (hJd : ∀ pre W, J pre W → J pre W.drew)
    (hY : ∀ pre x W, J pre W → pre.length < N → YieldAt F (n - 1) Try.prog l #[.slice (some ⟨b, off + x.1.toNat, none⟩) 2 2] W fun e W' =>
      (e = .returned (.bool true) ∧ J (pre ++ [x]) W' ∧ KpC n₀ Bs Bn W W') ∨ (e = .returned (.bool false) ∧ Jx (pre ++ [x]) W'))
    (W : World) (hs : W.cell? ⟨Bs, 0, none⟩ = some (.slice (some ⟨b, off, none⟩) (2 * N) cap)) (hm : W.cell? ⟨Bn, 0, none⟩ = some (.int .i64 2)) (h0 : J [] W) :
    CallsIn F n Try.prog 96 #[.func (.yield l) #[] #[], .pointer (some ⟨Bs, 0, none⟩), .pointer (some ⟨Bn, 0, none⟩)] W fun e W' => (∃ v, e = .returned v) ∧
      ((∃ ys, ys.map Subtype.val = offs N ∧ J ys W') ∨ (∃ pre, True ∧ Jx pre W')) := by
  refine callsIn_of_wp Try.func96 rfl h7 ?_ hro
  simp only [Try.ntmps96, List.size_toArray, List.length_cons, List.length_nil, Nat.reduceAdd, Nat.reduceSub, Array.replicate_succ, Array.replicate_zero, List.push_toArray, List.append_toArray, List.nil_append, List.cons_append]
  gi_wp2
  gi_loopw [4] (fun i wr => ∃ (k : Nat) (j : Int) (pre : List (Off N)), k ≤ N ∧ 0 ≤ j ∧ Hid (j = 2 * (k : Int)) ∧ i = .int .i64 j ∧ Hid (pre.map Subtype.val = offs k) ∧ J pre wr ∧ KpC n₀ Bs Bn W wr)
    (fun i _ => 2 * N - (intOf i).toNat)
  case atStart => exact ⟨0, 0, [], Nat.zero_le _, by omega, rfl, rfl, rfl, h0, Below.refl _ _, rfl, rfl⟩
  case round =>
    obtain ⟨k, j, pre, hk, hj0, hj, rfl, hpre, hJs, hnx⟩ := hrel
    have c1 : wr.cell? ⟨Bs, 0, none⟩ = some (.slice (some ⟨b, off, none⟩) (2 * N) cap) := (World.cell?_of_block (a := ⟨Bs, 0, none⟩) hnx.2.1).trans hs
    have c2 : wr.cell? ⟨Bn, 0, none⟩ = some (.int .i64 2) := (World.cell?_of_block (a := ⟨Bn, 0, none⟩) hnx.2.2).trans hm
    by_cases hlt : k < N
    · have hjl : j + 2 ≤ ((2 * N : Nat) : Int) := by have := hj.out; omega
      have hjn : j < ((2 * N : Nat) : Int) := by omega
      have hpl : pre.length < N := by
        have := congrArg List.length hpre.out
        rw [List.length_map, offs_length] at this
        omega
      obtain ⟨fn, tmps, assign, body, hy, hR⟩ := hY pre ⟨j, hj0, by omega⟩ wr.drew (hJd _ _ hJs) hpl
      dsimp only at hy
      have hA := @cell?_allocs
      obtain ⟨m, hm1⟩ : ∃ m, 2 * N - j.toNat = m := ⟨_, rfl⟩
      have hm2 : min 2 (m : Int) = 2 := by omega
      have hm3 : (j + 2).toNat - j.toNat = 2 := by omega
      have hq1 : j ≤ 2 * (N : Int) := by omega
      have hq2 : ¬ cap = j.toNat := by omega
      have hq3 : j + 2 ≤ (cap : Int) := by omega
      have hq4 : j ≤ j + 2 := by omega
      have hj2 : 0 ≤ j + 2 := by omega
      gi_wp2
      refine wpIn_region_calm [0, 1, 2, 3, 4, 5] [6] (by kernel_rfl) (by kernel_rfl) (by kernel_rfl) ?_
      simp only [pickOps, List.filterMap_cons, List.filterMap_nil, List.getElem?_cons_succ, List.getElem?_cons_zero]
      repeat (refine wpCalm_step (fun K hK => ?_); go_simp; refine hK _ ?_; clear hK K)
      refine wpCalm_nil ?_
      clear hA
      go_wp2
      simp only [noOut]
      gi_wp2
      refine hR.mono ?_
      rintro e W3 (⟨rfl, hJ3, hk3⟩ | ⟨rfl, hJx3⟩)
      · have hnx3 : KpC n₀ Bs Bn W W3 := hnx.trans ⟨((Below.refl n₀ wr).drew).trans hk3.1, hk3.2.1, hk3.2.2⟩
        have d1 := (World.cell?_of_block (a := ⟨Bs, 0, none⟩) hnx3.2.1).trans hs
        have d2 := (World.cell?_of_block (a := ⟨Bn, 0, none⟩) hnx3.2.2).trans hm
        gi_wp2
        go_roundw
        case rel => exact ⟨k + 1, j + 2, _, by omega, hj2, (by show _ = _; have := hj.out; omega), rfl, (by show _ = _; rw [List.map_append, hpre.out, offs_succ, ← hj.out]; rfl), hJ3, hnx3⟩
        case measure => simp [intOf]; omega
      · gi_wp2
        refine bodyPost_ret (results_none rfl _ _ _) rfl ?_
        exact ⟨⟨_, rfl⟩, .inr (by first | exact ⟨_, trivial, hJx3⟩ | exact ⟨_, hJx3⟩)⟩
    · have hjl : ¬ j < ((2 * N : Nat) : Int) := by have := hj.out; omega
      obtain rfl : k = N := by omega
      gi_wp2
      go_end0
      exact ⟨⟨_, rfl⟩, .inl ⟨pre, hpre.out, hJs⟩⟩

/-- slices.Chunk's value hands out the pairs' offsets. -/
theorem chunk_stops (F : Fence) (n : Nat) (h7 : F.fn 96) (hro : F.round = none) (hn : 1 ≤ n) (Bs Bn n₀ b off cap N : Nat) (hN : N ≤ 32) (hcap : 2 * N ≤ cap) (hcm : cap ≤ 9223372036854775807) (w : World) (hBs : Bs < w.heap.size) (hBn : Bn < w.heap.size)
    (hs : w.cell? ⟨Bs, 0, none⟩ = some (.slice (some ⟨b, off, none⟩) (2 * N) cap)) (hm : w.cell? ⟨Bn, 0, none⟩ = some (.int .i64 2)) :
    SeqStopsK F n Try.prog 96 #[.pointer (some ⟨Bs, 0, none⟩), .pointer (some ⟨Bn, 0, none⟩)] (fun x : Off N => #[.slice (some ⟨b, off + x.1.toNat, none⟩) 2 2]) (KpC n₀ Bs Bn) (fun ys => ys.map Subtype.val = offs N) (fun _ => True) N w := fun l J Jx W hW hJ _ hY h0 =>
  chunk1_in F n h7 hro hn l Bs Bn n₀ b off cap N hN hcap hcm J Jx (fun pre W1 h => hJ pre W1 W1.drew none h ⟨rfl, rfl, rfl, Nat.le_refl _, fun _ _ _ => rfl⟩ (fun r e => by cases e)) hY W ((hW.cell (p := ⟨Bs, 0, none⟩) hBs).trans hs) ((hW.cell (p := ⟨Bn, 0, none⟩) hBn).trans hm) h0

theorem gms_offs (many : Int) (l : List Int) (k : Nat) : gms many l k = (offs k).map (gm many l) := by
  simp [gms, offs, Function.comp_def]

theorem boxed_app {W w1 : World} {n₀ Bo R : Nat} {t e : TypeId} {size : Nat} {v v' : Value} {k m : Nat} {xs ys : List Value} {tmp : Obj} (hv : Boxed W Bo t v) (hrow : W.ownsRow R e size v k xs) (hn : n₀ ≤ Bo) (hBR : Bo < R) (hR : R ≤ W.heap.size)
    (hown' : w1.ownsRow R e size v' m ys) (hg : (W.alloc tmp).grownBy w1 v.ownBlock) :
    Boxed w1 Bo t v ∧ Boxed (w1.setCell ⟨Bo, 0, none⟩ v') Bo t v' ∧ (w1.setCell ⟨Bo, 0, none⟩ v').ownsRow R e size v' m ys ∧ KeepsOthers W (w1.setCell ⟨Bo, 0, none⟩ v') ∧ Below n₀ W (w1.setCell ⟨Bo, 0, none⟩ v') ∧
      (∀ k, k < R → k ≠ Bo → (w1.setCell ⟨Bo, 0, none⟩ v').heap[k]? = W.heap[k]?) := by
  have hne : some Bo ≠ v.ownBlock := fun h => by have := (hrow.lt Bo h.symm).1; omega
  have hne' : v'.ownBlock ≠ some Bo := fun h => by have := (hown'.lt Bo h).1; omega
  have hv1 : Boxed w1 Bo t v := (hv.alloc tmp).kept hg hne
  refine ⟨hv1, hv1.set v', hown'.kept (grownBy_setCell' w1 Bo v') (.inr hne'), ?_, ?_, ?_⟩
  · refine ((KeepsOthers.alloc W tmp).trans (KeepsOthers.of_grownBy hg fun j o ej hj => ?_)).trans (KeepsOthers.setCell _ _ _)
    rcases (hrow.alloc tmp).2 with ⟨rfl, _⟩ | ⟨g, cap, cur, rfl, _, hgb, _⟩
    · simp [Value.ownBlock] at ej
    · obtain rfl : g = j := by simpa [Value.ownBlock] using ej
      rw [hgb] at hj; cases hj; rfl
  · exact (((Below.refl n₀ W).alloc (by omega) tmp).grown hg (by simp; omega) fun j ej => by have := (hrow.lt j ej).1; omega).setCell (p := ⟨Bo, 0, none⟩) hn v'
  · intro k hk hkB
    rw [Below.heap_setCell _ _ _ _ hkB, hg.block k (by simp; omega) (fun h => by have := (hrow.lt k h.symm).1; omega), Below.heap_alloc _ _ _ (by omega)]

set_option maxRecDepth 100000 in
set_option maxHeartbeats 4000000 in
theorem paired_any (many : Int) (l : List Int) (b off cap N : Nat) (w : World) (hN : N ≤ 32) (hl : l.length = 2 * N) (hcap : 2 * N ≤ cap) (hcm : cap ≤ 9223372036854775807) (hb : b < w.heap.size)
    (hcell : ∀ i : Int, 0 ≤ i → i < l.length → w.cell? ⟨b, off + i.toNat, none⟩ = some (.int .i64 (geti l i))) :
    Calls Try.prog 52 #[.slice (some ⟨b, off, none⟩) (2 * N) cap, .int .i64 many] w fun e w' => ∃ v, e = .returned v ∧ w'.ownsRow w.heap.size 33 2 v N (cells2 (gms many l N)) ∧ Below w.heap.size w w' := by
  have hE := el_pair2
  refine (callsIn_wide (n := 3)).1 ?_
  refine callsIn_of_wp_marks Try.func52 rfl trivial ?_ rfl
  simp only [Try.ntmps52, List.size_toArray, List.length_cons, List.length_nil, Nat.reduceAdd, Nat.reduceSub, Array.replicate_succ, Array.replicate_zero, List.push_toArray, List.append_toArray, List.nil_append, List.cons_append]
  gi_wp2_with (refine ⟨trivial, ?_⟩; gi_at_call 86; refine (chunk_in Fence.wide (3 - 1) trivial rfl _ _ _ _).mono ?_; rintro e w' ⟨rfl, rfl⟩)
  have hsz4 : ((((w.alloc (.cells #[.int .i64 many] 3)).alloc (.cells #[.slice none 0 0] 30)).alloc (.cells #[.slice (some ⟨b, off, none⟩) (2 * N) cap] 22)).alloc (.cells #[.int .i64 2] 3)).heap.size = w.heap.size + 4 := by simp
  have hB4 : Below w.heap.size w ((((w.alloc (.cells #[.int .i64 many] 3)).alloc (.cells #[.slice none 0 0] 30)).alloc (.cells #[.slice (some ⟨b, off, none⟩) (2 * N) cap] 22)).alloc (.cells #[.int .i64 2] 3)) :=
    ((((Below.refl _ w).alloc (Nat.le_refl _) _).alloc (by simp) _).alloc (by simp; omega) _).alloc (by simp; omega) _
  have bM : Boxed ((((w.alloc (.cells #[.int .i64 many] 3)).alloc (.cells #[.slice none 0 0] 30)).alloc (.cells #[.slice (some ⟨b, off, none⟩) (2 * N) cap] 22)).alloc (.cells #[.int .i64 2] 3)) w.heap.size 3 (.int .i64 many) := (((Boxed.new w _ _).alloc _).alloc _).alloc _
  have bO : Boxed ((((w.alloc (.cells #[.int .i64 many] 3)).alloc (.cells #[.slice none 0 0] 30)).alloc (.cells #[.slice (some ⟨b, off, none⟩) (2 * N) cap] 22)).alloc (.cells #[.int .i64 2] 3)) (w.heap.size + 1) 30 (.slice none 0 0) := by
    have := ((Boxed.new (w.alloc (.cells #[.int .i64 many] 3)) 30 (.slice none 0 0)).alloc (.cells #[.slice (some ⟨b, off, none⟩) (2 * N) cap] 22)).alloc (.cells #[.int .i64 2] 3)
    rwa [World.size_alloc] at this
  have bS : Boxed ((((w.alloc (.cells #[.int .i64 many] 3)).alloc (.cells #[.slice none 0 0] 30)).alloc (.cells #[.slice (some ⟨b, off, none⟩) (2 * N) cap] 22)).alloc (.cells #[.int .i64 2] 3)) (w.heap.size + 2) 22 (.slice (some ⟨b, off, none⟩) (2 * N) cap) := by
    have := (Boxed.new ((w.alloc (.cells #[.int .i64 many] 3)).alloc (.cells #[.slice none 0 0] 30)) 22 (.slice (some ⟨b, off, none⟩) (2 * N) cap)).alloc (.cells #[.int .i64 2] 3)
    rwa [World.size_alloc, World.size_alloc] at this
  have bN : Boxed ((((w.alloc (.cells #[.int .i64 many] 3)).alloc (.cells #[.slice none 0 0] 30)).alloc (.cells #[.slice (some ⟨b, off, none⟩) (2 * N) cap] 22)).alloc (.cells #[.int .i64 2] 3)) (w.heap.size + 3) 3 (.int .i64 2) := by
    have := Boxed.new (((w.alloc (.cells #[.int .i64 many] 3)).alloc (.cells #[.slice none 0 0] 30)).alloc (.cells #[.slice (some ⟨b, off, none⟩) (2 * N) cap] 22)) 3 (.int .i64 2)
    rwa [World.size_alloc, World.size_alloc, World.size_alloc] at this
  generalize hw4 : ((((w.alloc (.cells #[.int .i64 many] 3)).alloc (.cells #[.slice none 0 0] 30)).alloc (.cells #[.slice (some ⟨b, off, none⟩) (2 * N) cap] 22)).alloc (.cells #[.int .i64 2] 3)) = w4 at *
  clear hw4
  try rw [show w.heap.size + 1 + 1 = w.heap.size + 2 from rfl]
  refine wpIn_rangeFunc_ownG rfl (by omega) (gf := 96) (lb := #[.pointer (some ⟨w.heap.size + 2, 0, none⟩), .pointer (some ⟨w.heap.size + 3, 0, none⟩)]) rfl trivial (enters_of Try.func96 (by kernel_rfl) rfl)
    (chunk_stops Fence.wide (3 - 1) trivial rfl (by omega) (w.heap.size + 2) (w.heap.size + 3) w.heap.size b off cap N hN hcap hcm w4 (by omega) (by omega) bS.cell bN.cell) KpC.trans
    (fun W l o o' h1 h2 h3 h4 => ⟨belowK_b (w := w) (Nat.le_refl _) W l o o' (by omega) h2 h3 h4, World.putObj_heap_other (by omega), World.putObj_heap_other (by omega)⟩) (Below.refl _ _) (fun _ => rfl)
    (fun (pre : List (Off N)) W => ((∃ v, Boxed W (w.heap.size + 1) 30 v ∧ W.ownsRow (w.heap.size + 4) 33 2 v pre.length (cells2 ((pre.map Subtype.val).map (gm many l))) ∧ True) ∧ Boxed W w.heap.size 3 (.int .i64 many)) ∧ Below w.heap.size w4 W)
    (fun _ _ _ => False)
    (OwnFrom.and (OwnFrom.and (Own.from (holdsRow_own (w.heap.size + 4) (w.heap.size + 1) 30 33 2 (fun (pre : List (Off N)) => pre.length) (fun (pre : List (Off N)) => cells2 ((pre.map Subtype.val).map (gm many l))) (fun _ _ => True)) _)
      (Own.from (fun s A B row hs hg hr => hs.kept hg (fun e => (by obtain ⟨o, ho, hc⟩ := hr _ e.symm; rw [show A.heap[w.heap.size]? = _ from hs] at ho; cases ho; cases hc))) _)) (ownFrom_below (by omega) (by omega)))
    (fun _ _ _ _ _ hs _ _ => hs)
    ⟨⟨⟨_, bO, World.ownsRow_nil _ _ _ _, trivial⟩, bM⟩, Below.refl _ _⟩
    (fun x => { tmps := #[.slice (some ⟨b, off, none⟩) (2 * N) cap, .int .i64 many, undef, .pointer (some ⟨w.heap.size, 0, none⟩), .slice none 0 0, .pointer (some ⟨w.heap.size + 1, 0, none⟩), .slice (some ⟨b, off + x.1.toNat, none⟩) 2 2, undef, .slice (some ⟨b, off, none⟩) (2 * N) cap, .func (.func 96) #[] #[.pointer (some ⟨w.heap.size + 2, 0, none⟩), .pointer (some ⟨w.heap.size + 3, 0, none⟩)], .slice (some ⟨b, off + x.1.toNat, none⟩) 2 2, undef, undef, undef, undef, undef, undef, undef, undef, undef, undef, undef, undef, undef, undef, undef, undef, undef, undef, undef, undef, undef, undef, undef, undef, undef], defers := [] }) ?assign ?body ?done ?stop
  case assign =>
    intro l x W K hK
    gi_wp2
    exact hK
  case body =>
    rintro l' pre ⟨x, hx0, hx2⟩ W ⟨⟨⟨v, hv, hrow, _⟩, hbm⟩, hB⟩ hlt
    dsimp only
    have hbm1 : ∀ o, (W.alloc o).cell? ⟨w.heap.size, 0, none⟩ = some (.int .i64 many) := fun o => (hbm.alloc o).cell
    have hv1' : ∀ o, (W.alloc o).cell? ⟨w.heap.size + 1, 0, none⟩ = some v := fun o => (hv.alloc o).cell
    have hsW : w.heap.size + 4 ≤ W.heap.size := by have := hB.size; omega
    have hc0 : W.cell? ⟨b, off + x.toNat, none⟩ = some (.int .i64 (geti l x)) := ((hB4.trans hB).cell (p := ⟨b, off + x.toNat, none⟩) hb).trans (hcell x hx0 (by omega))
    have hc1 : W.cell? ⟨b, off + x.toNat + 1, none⟩ = some (.int .i64 (geti l (x + 1))) := by
      have := ((hB4.trans hB).cell (p := ⟨b, off + (x + 1).toNat, none⟩) hb).trans (hcell (x + 1) (by omega) (by omega))
      rwa [show off + (x + 1).toNat = off + x.toNat + 1 by omega] at this
    have Hgm : Hid (gm many l x = (min (geti l x) (geti l (x + 1)), if many < max (geti l x) (geti l (x + 1)) then 0 else max (geti l x) (geti l (x + 1)))) := rfl
    generalize geti l x = x0 at *
    generalize geti l (x + 1) = x1 at *
    have hn : ∀ (p : Int × Int), gm many l x = p → cells2 (((pre ++ [(⟨x, hx0, hx2⟩ : Off N)]).map Subtype.val).map (gm many l)) = cells2 ((pre.map Subtype.val).map (gm many l)) ++ [.int .i64 p.1, .int .i64 p.2] := by
      intro p hp
      rw [List.map_append, List.map_append, List.map_cons, List.map_nil, List.map_cons, List.map_nil, cells2_snoc, hp]
    have Hn := Lib.hid hn
    clear hcell bS bN bO bM hn
    by_cases hmx : many < max x0 x1
    all_goals
      have hA := @cell?_allocs
      gi_wp2
      refine wpIn_region_calm [0, 1, 2, 3, 4, 5, 6, 7, 8, 9, 10, 11, 12, 13, 14] [15, 16] (by kernel_rfl) (by kernel_rfl) (by kernel_rfl) ?_
      simp only [pickOps, List.filterMap_cons, List.filterMap_nil, List.getElem?_cons_succ, List.getElem?_cons_zero]
      repeat (refine wpCalm_step (fun K hK => ?_); go_simp; refine hK _ ?_; clear hK K)
      refine wpCalm_nil ?_
      clear hA
      go_wp2
      simp only [noOut]
    · gi_wp2_with (gi_at_builtin; refine app_lawIn rfl _ _ _ rfl hE ((hrow.alloc _).alloc _) rfl [.int .i64 (min x0 x1), .int .i64 0] rfl rfl (cells_at (W.alloc _) #[_, _] _ _ (by simp)) (by simp [Value.oneCell']) (by omega) (by simp; omega) ?_; intro v' w1 hown' hgr; obtain ⟨g', cap', rfl⟩ := ownsRow_succ hown'; obtain ⟨hv1, hv2, hr2, hk2, hb2, hh2⟩ := boxed_app (n₀ := w.heap.size) (hv.alloc _) (hrow.alloc _) (by omega) (by omega) (by simp; omega) hown' (grown_of_drew hgr); have hc1 := hv1.cell; have hf1 := hv1.frozen)
      refine ⟨((KeepsOthers.alloc W _).trans hk2).from _, ⟨((Below.refl w.heap.size W).alloc (by omega) _).trans hb2, ?_, ?_⟩, ⟨⟨⟨_, hv2, ?_, trivial⟩, ?_⟩, hB.trans (((Below.refl w.heap.size W).alloc (by omega) _).trans hb2)⟩⟩
      · rw [hh2 _ (by omega) (by omega)]; exact Below.heap_alloc _ _ _ (by omega)
      · rw [hh2 _ (by omega) (by omega)]; exact Below.heap_alloc _ _ _ (by omega)
      · rw [Hn.out (min x0 x1, 0) (by rw [Hgm.out]; rw [if_pos hmx]), List.length_append]; exact hr2
      · show _ = _; rw [hh2 _ (by omega) (by omega), Below.heap_alloc _ _ _ (by omega)]; exact hbm
    · gi_wp2_with (gi_at_builtin; refine app_lawIn rfl _ _ _ rfl hE ((hrow.alloc _).alloc _) rfl [.int .i64 (min x0 x1), .int .i64 (max x0 x1)] rfl rfl (cells_at (W.alloc _) #[_, _] _ _ (by simp)) (by simp [Value.oneCell']) (by omega) (by simp; omega) ?_; intro v' w1 hown' hgr; obtain ⟨g', cap', rfl⟩ := ownsRow_succ hown'; obtain ⟨hv1, hv2, hr2, hk2, hb2, hh2⟩ := boxed_app (n₀ := w.heap.size) (hv.alloc _) (hrow.alloc _) (by omega) (by omega) (by simp; omega) hown' (grown_of_drew hgr); have hc1 := hv1.cell; have hf1 := hv1.frozen)
      refine ⟨((KeepsOthers.alloc W _).trans hk2).from _, ⟨((Below.refl w.heap.size W).alloc (by omega) _).trans hb2, ?_, ?_⟩, ⟨⟨⟨_, hv2, ?_, trivial⟩, ?_⟩, hB.trans (((Below.refl w.heap.size W).alloc (by omega) _).trans hb2)⟩⟩
      · rw [hh2 _ (by omega) (by omega)]; exact Below.heap_alloc _ _ _ (by omega)
      · rw [hh2 _ (by omega) (by omega)]; exact Below.heap_alloc _ _ _ (by omega)
      · rw [Hn.out (min x0 x1, max x0 x1) (by rw [Hgm.out]; rw [if_neg (by omega)]), List.length_append]; exact hr2
      · show _ = _; rw [hh2 _ (by omega) (by omega), Below.heap_alloc _ _ _ (by omega)]; exact hbm
  case done =>
    rintro D ys W hD hys ⟨⟨⟨v, hv, hrow, _⟩, hbm⟩, hB⟩ hK
    have hc := hv.cell
    have hyl := congrArg List.length hys
    rw [List.length_map, offs_length] at hyl
    rw [hys, hyl, ← gms_offs] at hrow
    clear hys hyl
    gi_wp2
    refine ⟨by simp, .inl ⟨_, _, rfl, run_takeDeferred hK, ?_⟩⟩
    exact ⟨_, results_tmp rfl _ _ _, v, rfl, owns_mono (ownsRow_putObj hrow _ hK rfl) (by omega), hB4.trans (hB.trans (belowK_b (w := w) (Nat.le_refl _) W D _ _ (by omega) hK rfl rfl))⟩
  case stop =>
    rintro D c pre W _ _ h _
    exact h.elim

end Go.Proofs.Ytkcjklgbadekjaa
