/-
  The law BracketsMade: its statements, joined. No condition.
-/
import Derived.Test.YtkcjklgbadekjaaBLe
namespace Go.Proofs.Ytkcjklgbadekjaa
open Go.RowKit Go.Bw

theorem bh_of_bg (n₀ : Nat) (w0 : World) (many a1 a2 : Int) (h0 : 2 ≤ many) (h1 : many ≤ 20) (a : Act) (w : World) (h : BG n₀ w0 many a1 a2 (gms many (bracketL many) ((bracketL many).length / 2)) (gms many (bracketL many) ((bracketL many).length / 2)).length a w) :
    BH n₀ w0 many a1 a2 (fun _ => []) a w := by
  obtain ⟨B, s7, l7, v, _, _, hl, hG, _, hF⟩ := h
  have hL := bracketL_length many h0 h1
  have he : (l7.length : Int) = ((bracketL many).length / 2 : Int) := by rw [hl, gms_length]; omega
  have hc : l7.length = 1 ∨ l7.length = 2 ∨ l7.length = 4 ∨ l7.length = 8 ∨ l7.length = 16 := by
    have hr := roundsF_le many
    have h2 : roundsF many = 1 ∨ roundsF many = 2 ∨ roundsF many = 3 ∨ roundsF many = 4 ∨ roundsF many = 5 := by
      have h1 : 1 ≤ roundsF many := by
        unfold roundsF; repeat' split
        all_goals omega
      omega
    rw [hL.2.1] at he
    rcases h2 with h2 | h2 | h2 | h2 | h2 <;> rw [h2] at he <;> simp at he <;> omega
  refine ⟨B, s7, l7, by omega, by omega, hG.mono ?_, hF.sub (by intro p hp; simp only [List.nil_append] at hp; exact List.mem_append_right _ hp)⟩
  rw [← hl]; omega

theorem blA (n₀ : Nat) (w0 : World) (many a1 a2 : Int) (h0 : 2 ≤ many) (h1 : many ≤ 20) : Tri Try.prog (BN n₀ w0 many a1 a2 []) (sel [1, 1, 1, 1, 0, 1, 2, 0] bm) (BH n₀ w0 many a1 a2 (fun _ => [])) := by
  refine Tri.seq (s := (sel [1, 1, 1, 1, 0, 1, 2, 0, 0] bm)) (c := (sel [1, 1, 1, 1, 0, 1, 2, 0, 1] bm)) (bl5 n₀ w0 many a1 a2 h0 h1) ?_
  have hL := bracketL_length many h0 h1
  refine (Tri.loop _ ?_ (blA_round n₀ w0 many a1 a2 _ (by rw [gms_length]; omega))).mono (fun _ _ h => h) (fun a w h => bh_of_bg n₀ w0 many a1 a2 h0 h1 a w h)
  intro a w h
  exact ⟨(gms many (bracketL many) ((bracketL many).length / 2)).length, 0, by omega, h⟩

theorem blD (n₀ : Nat) (w0 : World) (many a1 a2 : Int) : Tri Try.prog (BQ n₀ w0 many a1 a2 true) (sel [1, 1, 1, 1, 0, 1, 2, 1, 1, 2] bm) (B2 n₀ w0 many a1 a2 100 40 []) := by
  refine Tri.seq (s := (sel [1, 1, 1, 1, 0, 1, 2, 1, 1, 2, 0] bm)) (c := (sel [1, 1, 1, 1, 0, 1, 2, 1, 1, 2, 1] bm)) (bl14 n₀ w0 many a1 a2) ?_
  rintro Q J K hJ hK a w ⟨s7, l7, hl, hev, h⟩
  refine (Tri.seq (s := (sel [1, 1, 1, 1, 0, 1, 2, 1, 1, 2, 1, 0] bm)) (c := (sel [1, 1, 1, 1, 0, 1, 2, 1, 1, 2, 1, 1] bm)) (Tri.seq (s := (sel [1, 1, 1, 1, 0, 1, 2, 1, 1, 2, 1, 0, 0] bm)) (c := (sel [1, 1, 1, 1, 0, 1, 2, 1, 1, 2, 1, 0, 1] bm)) (bl15 n₀ w0 many a1 a2 s7 l7)
    (Tri.loop _ ?_ (blC_round n₀ w0 many a1 a2 s7 l7 hl hev))) (bl19 n₀ w0 many a1 a2 s7 l7 hl)) Q J K hJ hK a w h
  intro a w h
  exact ⟨l7.length, 0, by omega, h⟩

theorem blS4 (n₀ : Nat) (w0 : World) (many a1 a2 : Int) : Tri Try.prog (BN n₀ w0 many a1 a2 []) (sel [1, 1, 1, 1, 0] bm) (B2 n₀ w0 many a1 a2 100 40 []) := by
  refine Tri.seq (s := (sel [1, 1, 1, 1, 0, 0] bm)) (c := (sel [1, 1, 1, 1, 0, 1] bm)) (bl4 n₀ w0 many a1 a2) ?_
  refine Tri.cond (o := .tmp 46) (x := (sel [1, 1, 1, 1, 0, 1, 2] bm)) (y := .skip) (fun a w => (2 ≤ many ∧ many ≤ 20) ∧ BN n₀ w0 many a1 a2 [] a w) (BN n₀ w0 many a1 a2 []) ?_ ?_ (Tri.skip ?_)
  · intro a w h
    have he := h.2.2.eval 46 (by decide) (v := .bool (!outB many 2 20)) (by simp)
    have ht : BN n₀ w0 many a1 a2 [] a w := ⟨h.1, h.2.1, h.2.2.tail⟩
    cases hq : outB many 2 20
    · rw [hq] at he
      exact .inl ⟨he, outB_false hq, ht⟩
    · rw [hq] at he
      exact .inr ⟨he, ht⟩
  · rintro Q J K hJ hK a w ⟨⟨h0, h1⟩, h⟩
    refine (Tri.seq (s := (sel [1, 1, 1, 1, 0, 1, 2, 0] bm)) (c := (sel [1, 1, 1, 1, 0, 1, 2, 1] bm)) (blA n₀ w0 many a1 a2 h0 h1) (Tri.seq (s := (sel [1, 1, 1, 1, 0, 1, 2, 1, 0] bm)) (c := (sel [1, 1, 1, 1, 0, 1, 2, 1, 1] bm)) (bl13 n₀ w0 many a1 a2)
      (Tri.cond (o := .tmp 76) (x := (sel [1, 1, 1, 1, 0, 1, 2, 1, 1, 2] bm)) (y := .skip) (BQ n₀ w0 many a1 a2 true) (BQ n₀ w0 many a1 a2 false) ?_ (blD n₀ w0 many a1 a2) (Tri.skip ?_)))) Q J K hJ hK a w h
    · rintro a w ⟨q, h⟩
      obtain ⟨B, s7, l7, hl, hp, hG, hF⟩ := h
      have he := hF.eval 76 (by decide) (v := .bool q) (by simp)
      cases q
      · exact .inr ⟨he, B, s7, l7, hl, hp, hG, hF⟩
      · exact .inl ⟨he, B, s7, l7, hl, hp, hG, hF⟩
    · rintro a w ⟨B, s7, l7, hl, hp, hG, hF⟩
      exact ⟨B, s7, l7, by omega, hG.mono (by decide), hF.tail⟩
  · intro a w h
    exact ⟨_, _, [], by simp, (GenS.nil h.2.1 h.1).mono (by decide), h.2.2⟩

theorem blS5 (n₀ : Nat) (w0 : World) (many a1 a2 : Int) : Tri Try.prog (B2 n₀ w0 many a1 a2 100 40 []) (sel [1, 1, 1, 1, 1, 0] bm) (B2 n₀ w0 many a1 a2 110 40 []) := by
  refine Tri.seq (s := (sel [1, 1, 1, 1, 1, 0, 0] bm)) (c := (sel [1, 1, 1, 1, 1, 0, 1] bm)) (bl20 n₀ w0 many a1 a2) ?_
  refine Tri.cond (o := .tmp 100) (x := (sel [1, 1, 1, 1, 1, 0, 1, 2] bm)) (y := .skip) (BK n₀ w0 many a1 a2 true) (BK n₀ w0 many a1 a2 false) ?_ (bl21 n₀ w0 many a1 a2) (Tri.skip ?_)
  · rintro a w ⟨q, B, s7, l7, hl, hp, hG, hF⟩
    have he := hF.eval 100 (by decide) (v := .bool q) (by simp)
    cases q
    · exact .inr ⟨he, B, s7, l7, hl, hp, hG, hF⟩
    · exact .inl ⟨he, B, s7, l7, hl, hp, hG, hF⟩
  · rintro a w ⟨B, s7, l7, hl, hp, hG, hF⟩
    exact ⟨B, s7, l7, hl, hG.mono (by decide), hF.tail⟩

theorem blS6 (n₀ : Nat) (w0 : World) (many a1 a2 : Int) : Tri Try.prog (B2 n₀ w0 many a1 a2 110 40 []) (sel [1, 1, 1, 1, 1, 1, 0] bm) (B2 n₀ w0 many a1 a2 120 41 []) := by
  refine Tri.seq (s := (sel [1, 1, 1, 1, 1, 1, 0, 0] bm)) (c := (sel [1, 1, 1, 1, 1, 1, 0, 1] bm)) (bl22 n₀ w0 many a1 a2) ?_
  refine Tri.cond (o := .tmp 110) (x := (sel [1, 1, 1, 1, 1, 1, 0, 1, 2] bm)) (y := .skip) (B2 n₀ w0 many a1 a2 111 40 [(110, .bool true)]) (B2 n₀ w0 many a1 a2 111 40 [(110, .bool false)]) ?_ (bl23 n₀ w0 many a1 a2) (Tri.skip ?_)
  · rintro a w ⟨q, h⟩
    have he := h
    obtain ⟨B, s7, l7, hl, hG, hF⟩ := he
    have he := hF.eval 110 (by decide) (v := .bool q) (by simp)
    cases q
    · exact .inr ⟨he, h⟩
    · exact .inl ⟨he, h⟩
  · rintro a w ⟨B, s7, l7, hl, hG, hF⟩
    exact ⟨B, s7, l7, by omega, hG.mono (by decide), hF.tail⟩

theorem blS7 (n₀ : Nat) (w0 : World) (many a1 a2 : Int) : Tri Try.prog (B2 n₀ w0 many a1 a2 120 41 []) (sel [1, 1, 1, 1, 1, 1, 1, 0] bm) (fun a w => ∃ s7 l7, l7.length ≤ 41 ∧ ∃ m, BM n₀ w0 many a1 a2 s7 l7 m m a w) := by
  refine Tri.seq (s := (sel [1, 1, 1, 1, 1, 1, 1, 0, 0] bm)) (c := (sel [1, 1, 1, 1, 1, 1, 1, 0, 1] bm)) (bl24 n₀ w0 many a1 a2) ?_
  rintro Q J K hJ hK a w ⟨s7, l7, hl, m, h⟩
  refine (Tri.loop _ ?_ (blE_round n₀ w0 many a1 a2 s7 l7 m)) Q J K (fun a w h => hJ a w ⟨s7, l7, hl, m, h⟩) hK a w h
  intro a w h
  exact ⟨m.toNat, 0, by have := h.2.1; omega, h⟩

theorem blS8 (n₀ : Nat) (w0 : World) (many a1 a2 : Int) (s7 : Value) (l7 : List Int) (m : Int) : Tri Try.prog (BM n₀ w0 many a1 a2 s7 l7 m m) (sel [1, 1, 1, 1, 1, 1, 1, 1, 0] bm) (B3 n₀ w0 many a1 a2 s7 l7 150 11 []) := by
  refine Tri.seq (s := (sel [1, 1, 1, 1, 1, 1, 1, 1, 0, 0] bm)) (c := (sel [1, 1, 1, 1, 1, 1, 1, 1, 0, 1] bm)) (bl30 n₀ w0 many a1 a2 s7 l7 m) ?_
  refine Tri.cond (o := .tmp 131) (x := (sel [1, 1, 1, 1, 1, 1, 1, 1, 0, 1, 2] bm)) (y := .skip) (B3 n₀ w0 many a1 a2 s7 l7 140 10 [(131, .bool true)]) (B3 n₀ w0 many a1 a2 s7 l7 140 10 [(131, .bool false)]) ?_ (bl31 n₀ w0 many a1 a2 s7 l7) (Tri.skip ?_)
  · rintro a w ⟨q, h⟩
    have he := h
    obtain ⟨B, s8, l8, hl, hG, hH, hF⟩ := he
    have he := hF.eval 131 (by decide) (v := .bool q) (by simp)
    cases q
    · exact .inr ⟨he, h⟩
    · exact .inl ⟨he, h⟩
  · rintro a w ⟨B, s8, l8, hl, hG, hH, hF⟩
    exact ⟨B, s8, l8, by omega, hG.mono (by decide), hH, hF.tail⟩
end Go.Proofs.Ytkcjklgbadekjaa
