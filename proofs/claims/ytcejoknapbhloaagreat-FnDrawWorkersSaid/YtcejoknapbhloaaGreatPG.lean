/- Contracts of functions of the program vectorraster, each proved for all states that fit its description. No conditions. -/
import Derived.Test.YtcejoknapbhloaaGreatPF
import Derived.Test.YtcejoknapbhloaaGreatPA
import Derived.Test.YtcejoknapbhloaaGreatKK
import Derived.Test.YtcejoknapbhloaaGreatPC
set_option linter.unusedSimpArgs false
set_option linter.unusedVariables false
set_option maxRecDepth 100000
namespace Go.Proofs.YtcejoknapbhloaaGreat
open Go Go.VE
def sumN (f : Nat → Int) : Nat → Int
  | 0 => 0
  | n + 1 => sumN f n + f n
theorem sumN_step (f : Nat → Int) {k : Int} (h : 0 ≤ k) : sumN f (k + 1).toNat = sumN f k.toNat + f k.toNat := by
  rw [show (k + 1).toNat = k.toNat + 1 by omega]; rfl
theorem sumN_bd {f : Nat → Int} {m : Int} (h : ∀ i, 0 ≤ f i ∧ f i ≤ m) : ∀ n : Nat, 0 ≤ sumN f n ∧ sumN f n ≤ m * n
  | 0 => by simp [sumN]
  | n + 1 => by
    have h1 := sumN_bd h n
    have h2 := h n
    rw [sumN, Int.natCast_succ, Int.mul_add]
    omega
def ins1 (L : List (List Pt)) (rl x y : Int) : Int := if insN (wind L x y) rl = true then 1 else 0
def smp (c : Int) (a : Nat) : Int := 2 + 4 * (4 * c + a)
def cov (L : List (List Pt)) (rl c w : Int) : Int := sumN (fun a => sumN (fun b => ins1 L rl (smp c a) (smp w b)) 4) 4
theorem ins1_bd (L : List (List Pt)) (rl x y : Int) : 0 ≤ ins1 L rl x y ∧ ins1 L rl x y ≤ 1 := by unfold ins1; split <;> omega
theorem cov_row (L : List (List Pt)) (rl x w : Int) (n : Nat) : 0 ≤ sumN (fun b => ins1 L rl x (smp w b)) n ∧ sumN (fun b => ins1 L rl x (smp w b)) n ≤ n := by
  have := sumN_bd (f := fun b => ins1 L rl x (smp w b)) (m := 1) (fun b => ins1_bd _ _ _ _) n
  omega
theorem cov_row2 (L : List (List Pt)) (rl x w : Int) (n : Nat) : 0 ≤ sumN (fun b => ins1 L rl (smp w b) x) n ∧ sumN (fun b => ins1 L rl (smp w b) x) n ≤ n := by
  have := sumN_bd (f := fun b => ins1 L rl (smp w b) x) (m := 1) (fun b => ins1_bd _ _ _ _) n
  omega
theorem cov_bd (L : List (List Pt)) (rl c w : Int) (n : Nat) : 0 ≤ sumN (fun a => sumN (fun b => ins1 L rl (smp c a) (smp w b)) 4) n ∧ sumN (fun a => sumN (fun b => ins1 L rl (smp c a) (smp w b)) 4) n ≤ 4 * n :=
  sumN_bd (fun a => by have := cov_row L rl (smp c a) w 4; omega) n
theorem cov_bd2 (L : List (List Pt)) (rl c w : Int) (n : Nat) : 0 ≤ sumN (fun b => sumN (fun a => ins1 L rl (smp c a) (smp w b)) 4) n ∧ sumN (fun b => sumN (fun a => ins1 L rl (smp c a) (smp w b)) 4) n ≤ 4 * n :=
  sumN_bd (fun b => by have := cov_row2 L rl (smp w b) c 4; omega) n
theorem cov_turn (L : List (List Pt)) (rl c w : Int) : sumN (fun b => sumN (fun a => ins1 L rl (smp c a) (smp w b)) 4) 4 = cov L rl c w := by
  simp only [cov, sumN]; omega
theorem smp_int {c i x : Int} (h : 0 ≤ i) (hx : x = 2 + 4 * (4 * c + i)) : x = smp c i.toNat := by rw [hx, smp, Int.toNat_of_nonneg h]
theorem wind_bd {L : List (List Pt)} (h : vRings L = true) (x y : Int) : -200 ≤ wind L x y ∧ wind L x y ≤ 200 := by
  have := windE_bd (edgesOf L) x y
  have := edges_len h
  unfold wind; omega
theorem ins1_yes {L : List (List Pt)} {rl x y a b : Int} (h : insN (wind L x y) rl = true) (hx : x = a) (hy : y = b) : ins1 L rl a b = 1 := by subst hx hy; exact if_pos h
theorem ins1_no {L : List (List Pt)} {rl x y a b : Int} (h : insN (wind L x y) rl = false) (hx : x = a) (hy : y = b) : ins1 L rl a b = 0 := by subst hx hy; rw [ins1, h]; rfl
def spIAt_A : (List (List Pt)) × Int × Int × Int → List AV
  | (L, rl, x, y) => [.c (.sl false (L.map lptC)), I rl, I x, I y]
def spIAt_post : (List (List Pt)) × Int × Int × Int → AV → List Box → Prop
  | (L, rl, x, y), r, bs => r = B (vRings L && isRl rl && isU x && isU y && insN (wind L x y) rl) ∧ bs = []
def spCover_A : (List (List Pt)) × Int × Int × Int → List AV
  | (L, rl, c, w) => [.c (.sl false (L.map lptC)), I rl, I c, I w]
def spCover_pre : (List (List Pt)) × Int × Int × Int → Prop
  | (L, rl, c, w) => vRings L = true ∧ (0 ≤ c ∧ c ≤ 20) ∧ 0 ≤ w ∧ w ≤ 20
def spCover_post : (List (List Pt)) × Int × Int × Int → AV → List Box → Prop
  | (L, rl, c, w), r, bs => r = I (cov L rl c w) ∧ bs = []
def spCover : VE.Spec := famSpec spCover_A d_llpt_i_i_i spCover_pre spCover_post 0 true
theorem spCover_q : SpQ spCover true [] false 0 (fun a i => i = [] ∧ famPre d_llpt_i_i_i spCover_A spCover_pre a) (fun a i r b => famPost d_llpt_i_i_i spCover_post a r b) := ⟨rfl, rfl, rfl, rfl, fun _ _ => rfl, fun _ _ _ _ => rfl⟩
section
def tb84 : Nat → Option VE.Spec := tabOf [(129, wkIn spSamp), (128, wkIn spWind), (127, wkIn spIns)]
theorem tb84_129 : tb84 129 = some (wkIn spSamp) := rfl
theorem tb84_128 : tb84 128 = some (wkIn spWind) := rfl
theorem tb84_127 : tb84 127 = some (wkIn spIns) := rfl
theorem tb84_ok : TabOK Tryz.prog rt0 tb84 := (tabOf_cons (by kernel_rfl) sat_impl_sampleAt (tabOf_cons (by kernel_rfl) sat_impl_winding (tabOf_cons (by kernel_rfl) sat_impl_inside tabOf_nil)))
section
attribute [local go_sem] Tryz.f84 tb84_129 tb84_128 tb84_127 spCover_q spCover_A spCover_pre spCover_post spSamp_q spSamp_A spSamp_pre spSamp_post spWind_q spWind_A spWind_pre spWind_post spIns_q spIns_A spIns_pre spIns_post
set_option maxHeartbeats 4000000 in
theorem sat_impl_cover_0 : Sat Tryz.prog rt0 84 (wkOut spCover) := by
  refine fn_sat hm ttok (tab := tb84) tb84_ok Tryz.func84 (c := Tryz.f84.body.getD .skip) (by kernel_rfl) (ts := [.tmp 8]) (by kernel_rfl) Tryz.ntmps84 (sq := fun _ => true) (by kernel_rfl) ?_
  intro args ins pk hpre0 hpk
  obtain ⟨rfl, hpre0⟩ := hpre0
  obtain ⟨⟨L, rl, c, w⟩, rfl, hpre, hdec⟩ := famPre_ex hpre0
  clear hpre0 hdec
  try simp only [spCover_pre] at hpre
  replace hpk : pk + 0 ≤ pickLimit := hpk
  refine ⟨nle rfl, ?_⟩
  simp (maxSteps := 1000000) only [go_sem]
  repeat' first | apply And.intro | intro _ | omega | assumption | with_reducible rfl
  any_goals
    refine loopS (α := Int × Int) false [4, 5, 6, 7, 9, 10, 11, 12, 13, 14, 15, 16, 17, 18, 19, 20, 21, 22, 23, 24, 25, 26, 27, 28, 29, 30, 31, 32, 33, 34, 35] (fun σ => []) (fun σ x => [(9, I x.1), (12, I x.2)]) (fun σ x => []) (fun (n, i) => 0) (fun σ => (gI (σ.get 9), gI (σ.get 12))) (fun σ τ => []) (fun (n, i) => (0 ≤ i ∧ i ≤ 4) ∧ n = sumN (fun a => sumN (fun b => ins1 L rl (smp c a) (smp w b)) 4) i.toNat) (fun (n, i) => (4 - i).toNat) ⟨by (simp (maxSteps := 1000000) only [go_sem]; (repeat' first | apply And.intro | intro _ | omega | assumption | with_reducible rfl); all_goals (first | rfl)), ?_⟩
    rintro ⟨n, i⟩ hinv
    try dsimp only at hinv
    simp (maxSteps := 1000000) only [go_sem]
    have hB := cov_bd L rl c w i.toNat
    repeat' first | apply And.intro | intro _ | omega | assumption | with_reducible rfl
  
  any_goals
    refine loopS (α := Int × Int) false [4, 5, 6, 7, 9, 11, 13, 14, 15, 16, 17, 18, 19, 20, 21, 22, 23, 24, 25, 26, 27, 28, 29, 30, 31, 32, 33, 34] (fun σ => []) (fun σ x => [(9, I x.1), (15, I x.2)]) (fun σ x => []) (fun (n, k) => 0) (fun σ => (gI (σ.get 9), gI (σ.get 15))) (fun σ τ => []) (fun (n, k) => (0 ≤ k ∧ k ≤ 4) ∧ n = sumN (fun a => sumN (fun b => ins1 L rl (smp c a) (smp w b)) 4) i.toNat + sumN (fun b => ins1 L rl (smp c i.toNat) (smp w b)) k.toNat) (fun (n, k) => (4 - k).toNat) ⟨by (simp (maxSteps := 1000000) only [go_sem]; (repeat' first | apply And.intro | intro _ | omega | assumption | with_reducible rfl); all_goals (first | (rw [hinv.2]; exact (Int.add_zero _).symm))), ?_⟩
    rintro ⟨n, k⟩ hinv
    try dsimp only at hinv
    simp (maxSteps := 1000000) only [go_sem]
    have hB2 := cov_row L rl (smp c i.toNat) w k.toNat
    repeat' first | apply And.intro | intro _ | omega | assumption | with_reducible rfl
  all_goals (first | (exact hpre.1) | ((have h1 := wind_bd hpre.1 (2 + 4 * (c * 4 + i)) (2 + 4 * (w * 4 + k)); omega); done) | ((rw [sumN_step _ hinv.1.1, ins1_yes ‹_› (smp_int (by omega) (by omega)) (smp_int (by omega) (by omega)), hinv.2]; omega); done) | ((rw [sumN_step _ hinv.1.1, ins1_no ‹_› (smp_int (by omega) (by omega)) (smp_int (by omega) (by omega)), hinv.2]; omega); done) | ((rw [hinv.2, sumN_step _ (by omega), show k.toNat = 4 by omega]); done) | ((rw [hinv.2, show i.toNat = 4 by omega]; rfl); done) | omega)
end
theorem sat_impl_cover : Sat Tryz.prog rt0 84 (wkIn spCover) := sat_in (sat_out sat_impl_cover_0)
end
section
def tb89 : Nat → Option VE.Spec := tabOf [(133, wkIn spToInt), (135, wkIn spWind), (134, wkIn spIns)]
theorem tb89_133 : tb89 133 = some (wkIn spToInt) := rfl
theorem tb89_135 : tb89 135 = some (wkIn spWind) := rfl
theorem tb89_134 : tb89 134 = some (wkIn spIns) := rfl
theorem tb89_ok : TabOK Tryz.prog rt0 tb89 := (tabOf_cons (by kernel_rfl) sat_spec_toInt (tabOf_cons (by kernel_rfl) sat_spec_winding (tabOf_cons (by kernel_rfl) sat_spec_inside tabOf_nil)))
section
attribute [local go_sem] Tryz.f89 tb89_133 tb89_135 tb89_134 spCover_q spCover_A spCover_pre spCover_post spToInt_q spToInt_A spToInt_pre spToInt_post spWind_q spWind_A spWind_pre spWind_post spIns_q spIns_A spIns_pre spIns_post
set_option maxHeartbeats 4000000 in
theorem sat_spec_cover_0 : Sat Tryz.prog rt0 89 (wkOut spCover) := by
  refine fn_sat hm ttok (tab := tb89) tb89_ok Tryz.func89 (c := Tryz.f89.body.getD .skip) (by kernel_rfl) (ts := [.tmp 8]) (by kernel_rfl) Tryz.ntmps89 (sq := fun _ => true) (by kernel_rfl) ?_
  intro args ins pk hpre0 hpk
  obtain ⟨rfl, hpre0⟩ := hpre0
  obtain ⟨⟨L, rl, c, w⟩, rfl, hpre, hdec⟩ := famPre_ex hpre0
  clear hpre0 hdec
  try simp only [spCover_pre] at hpre
  replace hpk : pk + 0 ≤ pickLimit := hpk
  refine ⟨nle rfl, ?_⟩
  simp (maxSteps := 1000000) only [go_sem]
  repeat' first | apply And.intro | intro _ | omega | assumption | with_reducible rfl
  refine loopS (α := Int × Int) false [4, 5, 6, 7, 9, 10, 11, 12, 13, 14, 15, 16, 17, 18, 19, 20, 21, 22, 23, 24, 25, 26, 27, 28, 29, 30, 31, 32, 33, 34, 35, 36, 37, 38, 39, 40, 41, 42] (fun σ => []) (fun σ x => [(9, I x.1), (10, I x.2)]) (fun σ x => []) (fun (n, i) => 0) (fun σ => (gI (σ.get 9), gI (σ.get 10))) (fun σ τ => []) (fun (n, i) => (0 ≤ i ∧ i ≤ 4) ∧ n = sumN (fun b => sumN (fun a => ins1 L rl (smp c a) (smp w b)) 4) i.toNat) (fun (n, i) => (4 - i).toNat) ⟨by (simp (maxSteps := 1000000) only [go_sem]; (repeat' first | apply And.intro | intro _ | omega | assumption | with_reducible rfl); all_goals (first | rfl)), ?_⟩
  rintro ⟨n, i⟩ hinv
  try dsimp only at hinv
  simp (maxSteps := 1000000) only [go_sem]
  have hB := cov_bd2 L rl c w i.toNat
  repeat' first | apply And.intro | intro _ | omega | assumption | with_reducible rfl
  any_goals
    refine loopS (α := Int × Int) false [4, 5, 6, 7, 9, 11, 12, 13, 14, 15, 16, 17, 18, 19, 20, 21, 22, 23, 24, 25, 26, 27, 28, 29, 30, 31, 32, 33, 34, 35, 36, 37, 38, 39, 40, 41, 42] (fun σ => []) (fun σ x => [(9, I x.1), (11, I x.2)]) (fun σ x => []) (fun (n, k) => 0) (fun σ => (gI (σ.get 9), gI (σ.get 11))) (fun σ τ => []) (fun (n, k) => (0 ≤ k ∧ k ≤ 4) ∧ n = sumN (fun b => sumN (fun a => ins1 L rl (smp c a) (smp w b)) 4) i.toNat + sumN (fun a => ins1 L rl (smp c a) (smp w i.toNat)) k.toNat) (fun (n, k) => (4 - k).toNat) ⟨by (simp (maxSteps := 1000000) only [go_sem]; (repeat' first | apply And.intro | intro _ | omega | assumption | with_reducible rfl); all_goals (first | (rw [hinv.2]; exact (Int.add_zero _).symm))), ?_⟩
    rintro ⟨n, k⟩ hinv
    try dsimp only at hinv
    simp (maxSteps := 1000000) only [go_sem]
    have hB2 := cov_row2 L rl (smp w i.toNat) c k.toNat
    repeat' first | apply And.intro | intro _ | omega | assumption | with_reducible rfl
  all_goals (first | (exact hpre.1) | ((have h1 := wind_bd hpre.1 (16 * c + 4 * k + 2) (16 * w + 4 * i + 2); omega); done) | ((rw [sumN_step _ hinv.1.1, hinv.2, ← smp_int (c := c) (x := 16 * c + 4 * k + 2) hinv.1.1 (by omega), ← smp_int (c := w) (x := 16 * w + 4 * i + 2) (by omega) (by omega), Int.add_assoc]; rfl); done) | ((rw [hinv.2, sumN_step _ (by omega), show k.toNat = 4 by omega]); done) | ((rw [hinv.2, show i.toNat = 4 by omega]; exact cov_turn _ _ _ _); done) | omega)
end
theorem sat_spec_cover : Sat Tryz.prog rt0 89 (wkIn spCover) := sat_in (sat_out sat_spec_cover_0)
end
end Go.Proofs.YtcejoknapbhloaaGreat
