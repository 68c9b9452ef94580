/-
  More on pieces: those that only go on; those that do not return. No condition on a program.
-/
import Derived.Test.YtbidnbcclibigaaDoorPieceT
import Derived.Test.YtbidnbcclibigaaDoorMix
namespace Go.Bw
open Go.RowKit
/-- An ending that only goes on. -/
def OnlyN (J : Rel) : Exit → Act → World → Prop
  | .normal, a, w => J a w
  | _, _, _ => False
theorem T3.leafN {P : Program} {R S X T : Rel} {s : Code} {id : Nat} (h : ∀ JS : Rel, (∀ a w, S a w → JS a w) → ∀ a w, R a w → s.wp P (OnlyN JS) a w) : T3 P R s S X id T := by
  intro a w hR
  refine wp_mono (h S (fun _ _ q => q) a w hR) ?_
  intro e a w q
  cases e with
  | normal => exact q
  | _ => exact q.elim
theorem T3.noT {P : Program} {R S X T : Rel} {s : Code} {id : Nat} (h : T3 P R s S X id No) : T3 P R s S X id T :=
  h.mono (fun _ _ q => q) (fun _ _ q => q) (fun _ _ q => q.elim) (fun _ _ q => q)
theorem grown_row {w w' : World} (g : w.grownBy w' none) (row : Option Nat) : w.grownBy w' row := ⟨g.os, g.tape, g.output, g.size, fun k h _ => g.block k h (by simp)⟩
end Go.Bw
