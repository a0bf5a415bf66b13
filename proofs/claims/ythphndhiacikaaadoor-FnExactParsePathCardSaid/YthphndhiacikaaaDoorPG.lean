/- Contracts of functions of the program vectorraster, each proved for all states that fit its description. No conditions. -/
import Derived.Test.YthphndhiacikaaaDoorPF
import Derived.Test.YthphndhiacikaaaDoorPA
import Derived.Test.YthphndhiacikaaaDoorKK
import Derived.Test.YthphndhiacikaaaDoorPC
set_option linter.unusedSimpArgs false
set_option linter.unusedVariables false
section
set_option maxRecDepth 100000
set_option linter.unusedSimpArgs false
set_option linter.unusedVariables false
namespace Go.Proofs.YthphndhiacikaaaDoor
open Go Go.VE
def sumN (f : Nat → Int) : Nat → Int
  | 0 => 0
  | n + 1 => sumN f n + f n
theorem sumN_step (f : Nat → Int) {k : Int} (h : 0 ≤ k) : sumN f (k + 1).toNat = sumN f k.toNat + f k.toNat := by
  rw [show (k + 1).toNat = k.toNat + 1 by omega]; rfl
theorem sumN_bd {f : Nat → Int} {m : Int} (h : ∀ i, 0 ≤ f i ∧ f i ≤ m) : ∀ n : Nat, 0 ≤ sumN f n ∧ sumN f n ≤ m * n
  | 0 => by simp [sumN]
  | n + 1 => by
    have h1 := sumN_bd h n
    have h2 := h n
    rw [sumN, Int.natCast_succ, Int.mul_add]
    omega
def ins1 (L : List (List Pt)) (rl x y : Int) : Int := if insN (wind L x y) rl = true then 1 else 0
def smp (c : Int) (a : Nat) : Int := 2 + 4 * (4 * c + a)
def cov (L : List (List Pt)) (rl c w : Int) : Int := sumN (fun a => sumN (fun b => ins1 L rl (smp c a) (smp w b)) 4) 4
theorem ins1_bd (L : List (List Pt)) (rl x y : Int) : 0 ≤ ins1 L rl x y ∧ ins1 L rl x y ≤ 1 := by unfold ins1; split <;> omega
theorem ins1_bd2 (L : List (List Pt)) (rl x : Int) (g : Nat → Int) : ∀ b, 0 ≤ ins1 L rl x (g b) ∧ ins1 L rl x (g b) ≤ 1 := fun _ => ins1_bd _ _ _ _
theorem cov_row (L : List (List Pt)) (rl x w : Int) (n : Nat) : 0 ≤ sumN (fun b => ins1 L rl x (smp w b)) n ∧ sumN (fun b => ins1 L rl x (smp w b)) n ≤ n := by
  have := sumN_bd (f := fun b => ins1 L rl x (smp w b)) (m := 1) (fun b => ins1_bd _ _ _ _) n
  omega
theorem cov_row2 (L : List (List Pt)) (rl x w : Int) (n : Nat) : 0 ≤ sumN (fun b => ins1 L rl (smp w b) x) n ∧ sumN (fun b => ins1 L rl (smp w b) x) n ≤ n := by
  have := sumN_bd (f := fun b => ins1 L rl (smp w b) x) (m := 1) (fun b => ins1_bd _ _ _ _) n
  omega
theorem cov_bd (L : List (List Pt)) (rl c w : Int) (n : Nat) : 0 ≤ sumN (fun a => sumN (fun b => ins1 L rl (smp c a) (smp w b)) 4) n ∧ sumN (fun a => sumN (fun b => ins1 L rl (smp c a) (smp w b)) 4) n ≤ 4 * n :=
  sumN_bd (fun a => by have := cov_row L rl (smp c a) w 4; omega) n
theorem cov_bd2 (L : List (List Pt)) (rl c w : Int) (n : Nat) : 0 ≤ sumN (fun b => sumN (fun a => ins1 L rl (smp c a) (smp w b)) 4) n ∧ sumN (fun b => sumN (fun a => ins1 L rl (smp c a) (smp w b)) 4) n ≤ 4 * n :=
  sumN_bd (fun b => by have := cov_row2 L rl (smp w b) c 4; omega) n
theorem cov_turn (L : List (List Pt)) (rl c w : Int) : sumN (fun b => sumN (fun a => ins1 L rl (smp c a) (smp w b)) 4) 4 = cov L rl c w := by
  simp only [cov, sumN]; omega
theorem smp_int {c i x : Int} (h : 0 ≤ i) (hx : x = 2 + 4 * (4 * c + i)) : x = smp c i.toNat := by rw [hx, smp, Int.toNat_of_nonneg h]
theorem wind_bd {L : List (List Pt)} (h : vRings L = true) (x y : Int) : -200 ≤ wind L x y ∧ wind L x y ≤ 200 := by
  have := windE_bd (edgesOf L) x y
  have := edges_len h
  unfold wind; omega
theorem ins1_yes {L : List (List Pt)} {rl x y a b : Int} (h : insN (wind L x y) rl = true) (hx : x = a) (hy : y = b) : ins1 L rl a b = 1 := by subst hx hy; exact if_pos h
theorem ins1_no {L : List (List Pt)} {rl x y a b : Int} (h : insN (wind L x y) rl = false) (hx : x = a) (hy : y = b) : ins1 L rl a b = 0 := by subst hx hy; rw [ins1, h]; rfl
def spWAt_A : (List (List Pt)) × Int × Int → List AV
  | (L, x, y) => [.c (.sl false (L.map lptC)), I x, I y]
def spWAt_pre : (List (List Pt)) × Int × Int → Prop
  | (L, x, y) => L.length ≤ 1000000000 ∧ total L ≤ 1000000000
def spWAt_post : (List (List Pt)) × Int × Int → AV → List Box → Prop
  | (L, x, y), r, bs => r = I (if (vRings L && isU x && isU y) = true then wind L x y else 0) ∧ bs = []
def spWAt : VE.Spec := famSpec spWAt_A d_llpt_i_i spWAt_pre spWAt_post 0 true
theorem spWAt_q : spWAt.flat = true ∧ spWAt.mt = [] ∧ spWAt.shut = false ∧ spWAt.cost = 0 ∧ (∀ a i, spWAt.pre a i = (i = [] ∧ famPre d_llpt_i_i spWAt_A spWAt_pre a)) ∧ ∀ a i r b, spWAt.post a i r b = (famPost d_llpt_i_i spWAt_post a r b) := ⟨rfl, rfl, rfl, rfl, fun _ _ => rfl, fun _ _ _ _ => rfl⟩
def spIAt_A : (List (List Pt)) × Int × Int × Int → List AV
  | (L, rl, x, y) => [.c (.sl false (L.map lptC)), I rl, I x, I y]
def spIAt_pre : (List (List Pt)) × Int × Int × Int → Prop
  | (L, rl, x, y) => L.length ≤ 1000000000 ∧ total L ≤ 1000000000
def spIAt_post : (List (List Pt)) × Int × Int × Int → AV → List Box → Prop
  | (L, rl, x, y), r, bs => r = B (vRings L && isRl rl && isU x && isU y && insN (wind L x y) rl) ∧ bs = []
def spIAt : VE.Spec := famSpec spIAt_A d_llpt_i_i_i spIAt_pre spIAt_post 0 true
theorem spIAt_q : spIAt.flat = true ∧ spIAt.mt = [] ∧ spIAt.shut = false ∧ spIAt.cost = 0 ∧ (∀ a i, spIAt.pre a i = (i = [] ∧ famPre d_llpt_i_i_i spIAt_A spIAt_pre a)) ∧ ∀ a i r b, spIAt.post a i r b = (famPost d_llpt_i_i_i spIAt_post a r b) := ⟨rfl, rfl, rfl, rfl, fun _ _ => rfl, fun _ _ _ _ => rfl⟩
def spCover_A : (List (List Pt)) × Int × Int × Int → List AV
  | (L, rl, c, w) => [.c (.sl false (L.map lptC)), I rl, I c, I w]
def spCover_pre : (List (List Pt)) × Int × Int × Int → Prop
  | (L, rl, c, w) => vRings L = true ∧ (0 ≤ c ∧ c ≤ 20) ∧ 0 ≤ w ∧ w ≤ 20
def spCover_post : (List (List Pt)) × Int × Int × Int → AV → List Box → Prop
  | (L, rl, c, w), r, bs => r = I (cov L rl c w) ∧ bs = []
def spCover : VE.Spec := famSpec spCover_A d_llpt_i_i_i spCover_pre spCover_post 0 true
theorem spCover_q : spCover.flat = true ∧ spCover.mt = [] ∧ spCover.shut = false ∧ spCover.cost = 0 ∧ (∀ a i, spCover.pre a i = (i = [] ∧ famPre d_llpt_i_i_i spCover_A spCover_pre a)) ∧ ∀ a i r b, spCover.post a i r b = (famPost d_llpt_i_i_i spCover_post a r b) := ⟨rfl, rfl, rfl, rfl, fun _ _ => rfl, fun _ _ _ _ => rfl⟩
def okCov (L : List (List Pt)) (rl c w : Int) : Bool := vRings L && isRl rl && decide (0 ≤ c ∧ c ≤ 11) && decide (0 ≤ w ∧ w ≤ 11)
def spCovOf_A : (List (List Pt)) × Int × Int × Int → List AV
  | (L, rl, c, w) => [.c (.sl false (L.map lptC)), I rl, I c, I w]
def spCovOf_pre : (List (List Pt)) × Int × Int × Int → Prop
  | (L, rl, c, w) => L.length ≤ 1000000000 ∧ total L ≤ 1000000000
def spCovOf_post : (List (List Pt)) × Int × Int × Int → AV → List Box → Prop
  | (L, rl, c, w), r, bs => r = I (if okCov L rl c w = true then cov L rl c w else -1) ∧ bs = []
def spCovOf : VE.Spec := famSpec spCovOf_A d_llpt_i_i_i spCovOf_pre spCovOf_post 0 true
theorem spCovOf_q : spCovOf.flat = true ∧ spCovOf.mt = [] ∧ spCovOf.shut = false ∧ spCovOf.cost = 0 ∧ (∀ a i, spCovOf.pre a i = (i = [] ∧ famPre d_llpt_i_i_i spCovOf_A spCovOf_pre a)) ∧ ∀ a i r b, spCovOf.post a i r b = (famPost d_llpt_i_i_i spCovOf_post a r b) := ⟨rfl, rfl, rfl, rfl, fun _ _ => rfl, fun _ _ _ _ => rfl⟩
end Go.Proofs.YthphndhiacikaaaDoor
end
section
set_option maxRecDepth 100000
set_option linter.unusedSimpArgs false
set_option linter.unusedVariables false
namespace Go.Proofs.YthphndhiacikaaaDoor
open Go Go.VE
end Go.Proofs.YthphndhiacikaaaDoor
end
section
set_option maxRecDepth 100000
set_option linter.unusedSimpArgs false
set_option linter.unusedVariables false
namespace Go.Proofs.YthphndhiacikaaaDoor
open Go Go.VE
end Go.Proofs.YthphndhiacikaaaDoor
end
