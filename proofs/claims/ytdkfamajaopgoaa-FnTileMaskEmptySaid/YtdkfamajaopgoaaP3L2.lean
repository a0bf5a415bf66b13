/- Contracts of functions of the program vectorraster, each proved for all states that fit its description. No conditions. -/
import Derived.Test.YtdkfamajaopgoaaPH
import Derived.Test.YtdkfamajaopgoaaP3L1
set_option maxRecDepth 100000
set_option linter.unusedSimpArgs false
set_option linter.unusedVariables false
namespace Go.Proofs.Ytdkfamajaopgoaa
open Go Go.VE
theorem ins_le (L : List (List Pt)) (x y : Int) : ins1 L 1 x y ≤ ins1 L 0 x y := by
  have h0 := ins1_bd L 0 x y
  unfold ins1 at *
  by_cases h : insN (wind L x y) 1 = true
  · rw [if_pos h, if_pos (even_any h)]; exact Int.le_refl _
  · rw [if_neg h]; exact h0.1
theorem sumN_le {f g : Nat → Int} (h : ∀ i, f i ≤ g i) : ∀ n, sumN f n ≤ sumN g n
  | 0 => Int.le_refl _
  | n + 1 => by
    have h1 := sumN_le h n
    have h2 := h n
    simp only [sumN]; omega
theorem cov_le (L : List (List Pt)) (c w : Int) : cov L 1 c w ≤ cov L 0 c w := sumN_le (fun _ => sumN_le (fun _ => ins_le _ _ _) 4) 4
theorem cov_rng (L : List (List Pt)) (rl c w : Int) : 0 ≤ cov L rl c w ∧ cov L rl c w ≤ 16 := cov_bd L rl c w 4
theorem sumN_0 {f : Nat → Int} (h : ∀ i, f i = 0) : ∀ n, sumN f n = 0
  | 0 => rfl
  | n + 1 => by rw [sumN, sumN_0 h n, h n]; rfl
theorem sumN_eq {f g : Nat → Int} (h : ∀ i, f i = g i) (n : Nat) : sumN f n = sumN g n := by rw [show f = g from funext h]
theorem cov_nil (rl c w : Int) : cov [] rl c w = 0 := sumN_0 (fun _ => sumN_0 (fun _ => by
  have e : ∀ x y, wind [] x y = 0 := fun _ _ => rfl
  simp [ins1, e, insN]) 4) 4
theorem okCov_iff {L : List (List Pt)} {rl c w : Int} : okCov L rl c w = true ↔ vRings L = true ∧ isRl rl = true ∧ (0 ≤ c ∧ c ≤ 11) ∧ 0 ≤ w ∧ w ≤ 11 := by
  simp [okCov, Bool.and_eq_true, and_assoc]
theorem cov_pos {L : List (List Pt)} {rl c w : Int} (h : ¬ (if okCov L rl c w = true then cov L rl c w else -1) < 0) : okCov L rl c w = true := by
  by_cases e : okCov L rl c w = true
  · exact e
  · rw [if_neg e] at h; omega
theorem okCov_rl {L : List (List Pt)} {rl c w : Int} (h : okCov L rl c w = true) (r : Int) (hr : isRl r = true) : okCov L r c w = true := by
  rw [okCov_iff] at *; exact ⟨h.1, hr, h.2.2⟩
theorem okCov_L {L M : List (List Pt)} {rl c w : Int} (h : okCov L rl c w = true) (hM : vRings M = true) : okCov M rl c w = true := by
  rw [okCov_iff] at *; exact ⟨hM, h.2⟩
theorem wind_app (L M : List (List Pt)) (x y : Int) : wind (L ++ M) x y = wind L x y + wind M x y := by simp [wind, windE, edgesOf]
theorem insN_two (n : Int) : insN (n + n) 1 = false := by simp [insN]; omega
theorem insN_two0 (n : Int) : insN (n + n) 0 = insN n 0 := by simp [insN]; omega
theorem cov_two (L : List (List Pt)) (c w : Int) : cov (L ++ L) 1 c w = 0 := sumN_0 (fun _ => sumN_0 (fun _ => by simp [ins1, wind_app, insN_two]) 4) 4
theorem cov_two0 (L : List (List Pt)) (c w : Int) : cov (L ++ L) 0 c w = cov L 0 c w := sumN_eq (fun _ => sumN_eq (fun _ => by simp only [ins1, wind_app, insN_two0]) 4) 4
theorem law_cov {L : List (List Pt)} {rl c w : Int} (h : ¬ (if okCov L rl c w = true then cov L rl c w else -1) < 0) :
    okCov L rl c w = true ∧ okCov L 0 c w = true ∧ okCov L 1 c w = true ∧ (0 ≤ cov L rl c w ∧ cov L rl c w ≤ 16) ∧ cov L 1 c w ≤ cov L 0 c w ∧ okCov [] rl c w = true ∧ cov [] rl c w = 0 ∧
    (vRings (L ++ L) = true → okCov (L ++ L) 1 c w = true ∧ okCov (L ++ L) 0 c w = true ∧ cov (L ++ L) 1 c w = 0 ∧ cov (L ++ L) 0 c w = cov L 0 c w) := by
  have h1 := cov_pos h
  exact ⟨h1, okCov_rl h1 0 rfl, okCov_rl h1 1 rfl, cov_rng _ _ _ _, cov_le _ _ _, okCov_L h1 rfl, cov_nil _ _ _, fun h2 => ⟨okCov_L (okCov_rl h1 1 rfl) h2, okCov_L (okCov_rl h1 0 rfl) h2, cov_two _ _ _, cov_two0 _ _ _⟩⟩
def smpN (L : List (List Pt)) (rl c w : Int) (j : Nat) : Int := ins1 L rl (smp c (j % 4)) (smp w (j / 4))
theorem cov_samples (L : List (List Pt)) (rl c w : Int) : sumN (smpN L rl c w) 16 = cov L rl c w := by
  simp only [sumN, cov, smpN, Nat.reduceMod, Nat.reduceDiv]; omega
theorem smpN_bd (L : List (List Pt)) (rl c w : Int) (n : Nat) : 0 ≤ sumN (smpN L rl c w) n ∧ sumN (smpN L rl c w) n ≤ n := by
  have := sumN_bd (f := smpN L rl c w) (m := 1) (fun j => ins1_bd _ _ _ _) n
  omega
theorem smpN_val {L : List (List Pt)} {rl c w i : Int} (h : okCov L rl c w = true) (h0 : 0 ≤ i) (hi : i < 16) {b : Bool} (hb : (vRings L && isRl rl && isU (16 * c + 4 * i.tmod 4 + 2) && isU (16 * w + 4 * i.tdiv 4 + 2) && insN (wind L (16 * c + 4 * i.tmod 4 + 2) (16 * w + 4 * i.tdiv 4 + 2)) rl) = b) : smpN L rl c w i.toNat = if b = true then 1 else 0 := by
  obtain ⟨k1, k2, k3, k4⟩ := okCov_iff.1 h
  rw [Int.tmod_eq_emod_of_nonneg h0, Int.tdiv_eq_ediv_of_nonneg h0] at hb
  have hx : 16 * c + 4 * (i % 4) + 2 = smp c (i.toNat % 4) := by unfold smp; omega
  have hy : 16 * w + 4 * (i / 4) + 2 = smp w (i.toNat / 4) := by unfold smp; omega
  have ux : isU (smp c (i.toNat % 4)) = true := by rw [← hx, isU_iff]; omega
  have uy : isU (smp w (i.toNat / 4)) = true := by rw [← hy, isU_iff]; omega
  rw [hx, hy, k1, k2, ux, uy] at hb
  simp only [Bool.true_and] at hb
  subst hb
  rfl
theorem total_app {α : Type} (L M : List (List α)) : total (L ++ M) = total L + total M := by simp [total]
end Go.Proofs.Ytdkfamajaopgoaa
