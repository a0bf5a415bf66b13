/- Contracts of functions of the program vectorraster, each proved for all states that fit its description. No conditions. -/
import Derived.Test.YtcejoknapbhloaaGreatPY
import Derived.Test.YtcejoknapbhloaaGreatP0
set_option maxRecDepth 100000
set_option linter.unusedSimpArgs false
set_option linter.unusedVariables false
namespace Go.Proofs.YtcejoknapbhloaaGreat
open Go Go.VE
def inB (b : Bx) (c w : Int) : Prop := (b.l ≤ c ∧ c < b.r) ∧ b.t ≤ w ∧ w < b.b
theorem fl_cov {p : List Verb} {rl c w : Int} (h : ¬ inB (flB p) c w) : cov (ringsOf p) rl c w = 0 := by
  by_cases e : (ringsOf p).flatten = []
  · refine cov_out (b := ⟨16 * (c + 1), 0, 0, 0⟩) (fun p hp => by rw [e] at hp; cases hp) (.inl ?_)
    dsimp only; omega
  · rw [flB, if_neg e] at h
    refine cov_out (b := bnd (ringsOf p).flatten) (fun p hp => bnd_in p hp) ?_
    simp only [inB, pxB] at h; omega
end Go.Proofs.YtcejoknapbhloaaGreat
