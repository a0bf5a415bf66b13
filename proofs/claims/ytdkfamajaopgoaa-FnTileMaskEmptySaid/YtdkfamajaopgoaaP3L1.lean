/- Contracts of functions of the program vectorraster, each proved for all states that fit its description. No conditions. -/
import Derived.Test.YtdkfamajaopgoaaPH
set_option maxRecDepth 100000
set_option linter.unusedSimpArgs false
set_option linter.unusedVariables false
namespace Go.Proofs.Ytdkfamajaopgoaa
open Go Go.VE
theorem abs_iff (x : Int) : (1000 < if x < 0 then -x else x) ↔ isU x = false := by
  simp only [isU, decide_eq_false_iff_not]; split <;> omega
theorem insN_any (n : Int) : insN n 0 = !decide (n = 0) := by simp [insN]
theorem insN_even (n : Int) : insN n 1 = !decide (n.tmod 2 = 0) := by
  simp only [insN, if_true, ← decide_not, decide_eq_decide]
  exact (tmod2 n).symm
theorem even_any {n : Int} (h : insN n 1 = true) : insN n 0 = true := by
  simp only [insN, if_true, decide_eq_true_eq] at *
  rw [if_neg (by decide)]; simp; omega
theorem isRl0 : isRl 0 = true := rfl
theorem isRl1 : isRl 1 = true := rfl
end Go.Proofs.Ytdkfamajaopgoaa
