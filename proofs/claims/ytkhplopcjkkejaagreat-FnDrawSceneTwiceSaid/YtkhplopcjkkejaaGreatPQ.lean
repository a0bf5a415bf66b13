/- Contracts of functions of the program vectorraster, each proved for all states that fit its description. No conditions. -/
import Derived.Test.YtkhplopcjkkejaaGreatPA
import Derived.Test.YtkhplopcjkkejaaGreatKS
import Derived.Test.YtkhplopcjkkejaaGreatPO
import Derived.Test.YtkhplopcjkkejaaGreatPE
import Derived.Test.YtkhplopcjkkejaaGreatPC
import Derived.Test.YtkhplopcjkkejaaGreatPF
import Derived.Test.YtkhplopcjkkejaaGreatPD
set_option linter.unusedSimpArgs false
set_option linter.unusedVariables false
section
set_option maxRecDepth 100000
set_option linter.unusedSimpArgs false
set_option linter.unusedVariables false
namespace Go.Proofs.YtkhplopcjkkejaaGreat
open Go Go.VE
def vCol (c : Colr) : Bool := decide (0 ≤ c.a ∧ c.a ≤ 255) && decide (0 ≤ c.r ∧ c.r ≤ c.a) && decide (0 ≤ c.g ∧ c.g ≤ c.a) && decide (0 ≤ c.b ∧ c.b ≤ c.a)
def vStp : Int → List Stp → Bool
  | _, [] => true
  | p, s :: r => decide (p + 1 ≤ s.w ∧ s.w ≤ 256) && vCol s.c && vStp s.w r
def vStops (l : List Stp) : Bool := vStp (-1) l && decide (1 ≤ l.length ∧ l.length ≤ 4)
def lastW (l : List Stp) (i : Int) : Int := if i = 0 then -1 else ((l[(i - 1).toNat]?).map (·.w)).getD (-1)
theorem lastW_0 (l : List Stp) : lastW l 0 = -1 := rfl
theorem lastW_prev {l : List Stp} {i : Int} {s : Stp} (hi : ¬ i = 0) (h : l[(i - 1).toNat]? = some s) : lastW l i = s.w := by
  rw [lastW, if_neg hi, h]; rfl
theorem lastW_next {l : List Stp} {i : Int} {s : Stp} (h0 : 0 ≤ i) (h : l[i.toNat]? = some s) : lastW l (i + 1) = s.w := lastW_prev (by omega) (by rwa [show i + 1 - 1 = i by omega])
theorem vStp_step {l : List Stp} {i p : Int} {s : Stp} (h0 : 0 ≤ i) (h : l[i.toNat]? = some s) : vStp p (l.drop i.toNat) = (decide (p + 1 ≤ s.w ∧ s.w ≤ 256) && vCol s.c && vStp s.w (l.drop (i + 1).toNat)) := by
  rw [dropN h h0]; rfl
theorem vStops_bad {l : List Stp} (h : vStp (-1) l = false) : vStops l = false := by rw [vStops, h]; rfl
theorem vStp_end {l : List Stp} {i p : Int} (h : ¬ i < (l.length : Int)) : vStp p (l.drop i.toNat) = true := by
  rw [List.drop_eq_nil_of_le (by omega)]; rfl
theorem vStops_end {l : List Stp} (h : true = vStp (-1) l) : vStops l = decide (1 ≤ (l.length : Int) ∧ (l.length : Int) ≤ 4) := by
  rw [vStops, ← h, Bool.true_and, decide_eq_decide]; omega
def vPnt (p : Pnt) : Bool := vStops p.ss && vPt p.f && vPt p.t
def vFil (f : Fil) : Bool := vPath f.p && vRings (ringsOf f.p) && isRl f.rl && vPnt f.pn
def vScn (s : Scn) : Bool := szd s.w s.h && decide (s.fs.length ≤ 4) && s.fs.all vFil
structure okF (f : Fil) : Prop where
  p : f.p.length ≤ 1000
  n : nPts f.p ≤ 1000
  s : f.pn.ss.length ≤ 1000
structure okFs (l : List Fil) : Prop where
  len : l.length ≤ 1000
  all : ∀ f ∈ l, okF f
theorem okFs_at {l : List Fil} {i : Int} {f : Fil} (h : okFs l) (hf : l[i.toNat]? = some f) : okF f := h.all f (List.mem_of_getElem? hf)
theorem okFs_nil : okFs [] := ⟨by simp, fun f hf => by cases hf⟩
theorem okFs_snoc {l : List Fil} {f : Fil} (h : okFs l) (hl : l.length ≤ 900) (hf : okF f) : okFs (l ++ [f]) := ⟨by simp; omega, fun g hg => (List.mem_append.1 hg).elim (h.all g) fun hg => by rw [List.mem_singleton] at hg; exact hg ▸ hf⟩
end Go.Proofs.YtkhplopcjkkejaaGreat
end
section
set_option maxRecDepth 100000
set_option linter.unusedSimpArgs false
set_option linter.unusedVariables false
namespace Go.Proofs.YtkhplopcjkkejaaGreat
open Go Go.VE
def spAll_A : (List Int) × Int × Int → List AV
  | (l, lo, hi) => [.c (.sl false (l.map intC)), I lo, I hi]
def spAll_pre : (List Int) × Int × Int → Prop
  | (l, lo, hi) => l.length ≤ 1000000
def spAll_post : (List Int) × Int × Int → AV → List Box → Prop
  | (l, lo, hi), r, bs => r = B (l.all fun n => decide (lo ≤ n ∧ n ≤ hi)) ∧ bs = []
def spAll : VE.Spec := famSpec spAll_A d_li_i_i spAll_pre spAll_post 0 true
theorem spAll_q : spAll.flat = true ∧ spAll.mt = [] ∧ spAll.shut = false ∧ spAll.cost = 0 ∧ (∀ a i, spAll.pre a i = (i = [] ∧ famPre d_li_i_i spAll_A spAll_pre a)) ∧ ∀ a i r b, spAll.post a i r b = (famPost d_li_i_i spAll_post a r b) := ⟨rfl, rfl, rfl, rfl, fun _ _ => rfl, fun _ _ _ _ => rfl⟩
def tb87 : Nat → Option VE.Spec := tabOf [(50, wkIn spIn)]
theorem tb87_50 : tb87 50 = some (wkIn spIn) := rfl
theorem tb87_ok : TabOK Tryz.prog rt0 tb87 := (tabOf_cons (by kernel_rfl) sat_spec_inRange tabOf_nil)
set_option maxHeartbeats 4000000 in
theorem sat_spec_allIn_0 : Sat Tryz.prog rt0 87 (wkOut spAll) := by
  refine fn_sat hm ttok (tab := tb87) tb87_ok Tryz.func87 (c := Tryz.f87.body.getD .skip) (by kernel_rfl) (ts := [.tmp 6]) (by kernel_rfl) Tryz.ntmps87 (sq := fun _ => true) (by kernel_rfl) ?_
  intro args ins pk hpre0 hpk
  obtain ⟨rfl, hpre0⟩ := hpre0
  obtain ⟨⟨l, lo, hi⟩, rfl, hpre, hdec⟩ := famPre_ex hpre0
  clear hpre0 hdec
  try simp only [spAll_pre] at hpre
  replace hpk : pk + 0 ≤ pickLimit := hpk
  refine ⟨Nat.le_of_ble_eq_true rfl, ?_⟩
  simp (config := { maxSteps := 1000000 }) only [go_sem, ↓ifP_true, ↓ifP_false, ↓ifP_not, Nat.reduceLT, Nat.reduceAdd, Nat.reduceBEq, Nat.reduceSub, Nat.reduceLeDiff, Nat.reduceEqDiff, Nat.reduceMul, Int.reduceToNat, Int.reduceEq, Int.reduceLT, Int.reduceLE, Int.reduceAdd, Int.reduceSub, Int.reduceMul, reduceCtorEq, cond_true, cond_false, forall_eq', forall_eq, forall_const, implies_true, if_true, if_false, exists_eq_left', exists_eq', exists_eq, ne_eq, Tryz.f87, tb87_50, spAll_q, spAll_A, spAll_pre, spAll_post, spIn_q, spIn_A, spIn_pre, spIn_post]
  repeat' (first | apply And.intro | (intro _) | omega | assumption | with_reducible rfl)
  refine loopS (α := Int) false [3, 4, 5, 6, 7, 8, 9, 10, 11, 12, 13, 14, 15, 16, 17, 18, 19, 20, 21] (fun σ => []) (fun σ x => [(7, I x)]) (fun σ x => []) (fun i => 0) (fun σ => gI (σ.get 7)) (fun σ τ => []) (fun i => 0 ≤ i ∧ i ≤ l.length ∧ ((l.take i.toNat).all fun n => decide (lo ≤ n ∧ n ≤ hi)) = true) (fun i => (l.length - i).toNat) ⟨by (simp (config := { maxSteps := 1000000 }) only [go_sem, ↓ifP_true, ↓ifP_false, ↓ifP_not, Nat.reduceLT, Nat.reduceAdd, Nat.reduceBEq, Nat.reduceSub, Nat.reduceLeDiff, Nat.reduceEqDiff, Nat.reduceMul, Int.reduceToNat, Int.reduceEq, Int.reduceLT, Int.reduceLE, Int.reduceAdd, Int.reduceSub, Int.reduceMul, reduceCtorEq, cond_true, cond_false, forall_eq', forall_eq, forall_const, implies_true, if_true, if_false, exists_eq_left', exists_eq', exists_eq, ne_eq, Tryz.f87, tb87_50, spAll_q, spAll_A, spAll_pre, spAll_post, spIn_q, spIn_A, spIn_pre, spIn_post]; (repeat' (first | apply And.intro | (intro _) | omega | assumption | with_reducible rfl))), ?_⟩
  rintro i hinv
  try dsimp only at hinv
  simp (config := { maxSteps := 1000000 }) only [go_sem, ↓ifP_true, ↓ifP_false, ↓ifP_not, Nat.reduceLT, Nat.reduceAdd, Nat.reduceBEq, Nat.reduceSub, Nat.reduceLeDiff, Nat.reduceEqDiff, Nat.reduceMul, Int.reduceToNat, Int.reduceEq, Int.reduceLT, Int.reduceLE, Int.reduceAdd, Int.reduceSub, Int.reduceMul, reduceCtorEq, cond_true, cond_false, forall_eq', forall_eq, forall_const, implies_true, if_true, if_false, exists_eq_left', exists_eq', exists_eq, ne_eq, Tryz.f87, tb87_50, spAll_q, spAll_A, spAll_pre, spAll_post, spIn_q, spIn_A, spIn_pre, spIn_post]
  repeat' (first | apply And.intro | (intro _) | omega | assumption | with_reducible rfl)
  all_goals (first | (grind [→ takeN, takeA, all_bad]; done))
theorem sat_spec_allIn : Sat Tryz.prog rt0 87 (wkIn spAll) := sat_in (sat_out sat_spec_allIn_0)
def spVCol_A : Colr → List AV
  | c => [.agg (coC c)]
def spVCol_pre : Colr → Prop
  | c => True
def spVCol_post : Colr → AV → List Box → Prop
  | c, r, bs => r = B (vCol c) ∧ bs = []
def spVCol : VE.Spec := famSpec spVCol_A d_co spVCol_pre spVCol_post 0 true
theorem spVCol_q : spVCol.flat = true ∧ spVCol.mt = [] ∧ spVCol.shut = false ∧ spVCol.cost = 0 ∧ (∀ a i, spVCol.pre a i = (i = [] ∧ famPre d_co spVCol_A spVCol_pre a)) ∧ ∀ a i r b, spVCol.post a i r b = (famPost d_co spVCol_post a r b) := ⟨rfl, rfl, rfl, rfl, fun _ _ => rfl, fun _ _ _ _ => rfl⟩
def tb23 : Nat → Option VE.Spec := tabOf [(58, wkIn spIn)]
theorem tb23_58 : tb23 58 = some (wkIn spIn) := rfl
theorem tb23_ok : TabOK Tryz.prog rt0 tb23 := (tabOf_cons (by kernel_rfl) sat_impl_in tabOf_nil)
set_option maxHeartbeats 4000000 in
theorem sat_impl_ValidColor_0 : Sat Tryz.prog rt0 23 (wkOut spVCol) := by
  refine fn_sat hm ttok (tab := tb23) tb23_ok Tryz.func23 (c := Tryz.f23.body.getD .skip) (by kernel_rfl) (ts := [.tmp 2]) (by kernel_rfl) Tryz.ntmps23 (sq := fun _ => true) (by kernel_rfl) ?_
  intro args ins pk hpre0 hpk
  obtain ⟨rfl, hpre0⟩ := hpre0
  obtain ⟨c, rfl, hpre, hdec⟩ := famPre_ex hpre0
  clear hpre0 hdec
  try simp only [spVCol_pre] at hpre
  replace hpk : pk + 0 ≤ pickLimit := hpk
  refine ⟨Nat.le_of_ble_eq_true rfl, ?_⟩
  simp (config := { maxSteps := 1000000 }) only [go_sem, ↓ifP_true, ↓ifP_false, ↓ifP_not, Nat.reduceLT, Nat.reduceAdd, Nat.reduceBEq, Nat.reduceSub, Nat.reduceLeDiff, Nat.reduceEqDiff, Nat.reduceMul, Int.reduceToNat, Int.reduceEq, Int.reduceLT, Int.reduceLE, Int.reduceAdd, Int.reduceSub, Int.reduceMul, reduceCtorEq, cond_true, cond_false, forall_eq', forall_eq, forall_const, implies_true, if_true, if_false, exists_eq_left', exists_eq', exists_eq, ne_eq, Tryz.f23, tb23_58, spVCol_q, spVCol_A, spVCol_pre, spVCol_post, spIn_q, spIn_A, spIn_pre, spIn_post]
  repeat' (first | apply And.intro | (intro _) | omega | assumption | with_reducible rfl)
  all_goals (first | (simp [vCol, *]; done) | ((simp only [vCol]; grind); done) | (grind [vCol]; done) | (simp_all [vCol]; done))
theorem sat_impl_ValidColor : Sat Tryz.prog rt0 23 (wkIn spVCol) := sat_in (sat_out sat_impl_ValidColor_0)
def tb130 : Nat → Option VE.Spec := tabOf [(50, wkIn spIn), (87, wkIn spAll)]
theorem tb130_50 : tb130 50 = some (wkIn spIn) := rfl
theorem tb130_87 : tb130 87 = some (wkIn spAll) := rfl
theorem tb130_ok : TabOK Tryz.prog rt0 tb130 := (tabOf_cons (by kernel_rfl) sat_spec_inRange (tabOf_cons (by kernel_rfl) sat_spec_allIn tabOf_nil))
set_option maxHeartbeats 4000000 in
theorem sat_spec_validColor_0 : Sat Tryz.prog rt0 130 (wkOut spVCol) := by
  refine fn_sat hm ttok (tab := tb130) tb130_ok Tryz.func130 (c := Tryz.f130.body.getD .skip) (by kernel_rfl) (ts := [.tmp 2]) (by kernel_rfl) Tryz.ntmps130 (sq := fun _ => true) (by kernel_rfl) ?_
  intro args ins pk hpre0 hpk
  obtain ⟨rfl, hpre0⟩ := hpre0
  obtain ⟨c, rfl, hpre, hdec⟩ := famPre_ex hpre0
  clear hpre0 hdec
  try simp only [spVCol_pre] at hpre
  replace hpk : pk + 0 ≤ pickLimit := hpk
  refine ⟨Nat.le_of_ble_eq_true rfl, ?_⟩
  simp (config := { maxSteps := 1000000 }) only [go_sem, ↓ifP_true, ↓ifP_false, ↓ifP_not, Nat.reduceLT, Nat.reduceAdd, Nat.reduceBEq, Nat.reduceSub, Nat.reduceLeDiff, Nat.reduceEqDiff, Nat.reduceMul, Int.reduceToNat, Int.reduceEq, Int.reduceLT, Int.reduceLE, Int.reduceAdd, Int.reduceSub, Int.reduceMul, reduceCtorEq, cond_true, cond_false, forall_eq', forall_eq, forall_const, implies_true, if_true, if_false, exists_eq_left', exists_eq', exists_eq, ne_eq, Tryz.f130, tb130_50, tb130_87, spVCol_q, spVCol_A, spVCol_pre, spVCol_post, spIn_q, spIn_A, spIn_pre, spIn_post, spAll_q, spAll_A, spAll_pre, spAll_post]
  repeat' (first | apply And.intro | (intro _) | omega | assumption | with_reducible rfl)
  all_goals (first | (simp [vCol, *]; done) | ((simp only [vCol]; grind); done) | (grind [vCol]; done) | (simp_all [vCol]; done))
theorem sat_spec_validColor : Sat Tryz.prog rt0 130 (wkIn spVCol) := sat_in (sat_out sat_spec_validColor_0)
end Go.Proofs.YtkhplopcjkkejaaGreat
end
section
set_option maxRecDepth 100000
set_option linter.unusedSimpArgs false
set_option linter.unusedVariables false
namespace Go.Proofs.YtkhplopcjkkejaaGreat
open Go Go.VE
def spVSt_A : (List Stp) → List AV
  | l => [.c (.sl false (l.map stC))]
def spVSt_pre : (List Stp) → Prop
  | l => l.length ≤ 1000000
def spVSt_post : (List Stp) → AV → List Box → Prop
  | l, r, bs => r = B (vStops l) ∧ bs = []
def spVSt : VE.Spec := famSpec spVSt_A d_lst spVSt_pre spVSt_post 0 true
theorem spVSt_q : spVSt.flat = true ∧ spVSt.mt = [] ∧ spVSt.shut = false ∧ spVSt.cost = 0 ∧ (∀ a i, spVSt.pre a i = (i = [] ∧ famPre d_lst spVSt_A spVSt_pre a)) ∧ ∀ a i r b, spVSt.post a i r b = (famPost d_lst spVSt_post a r b) := ⟨rfl, rfl, rfl, rfl, fun _ _ => rfl, fun _ _ _ _ => rfl⟩
def tb106 : Nat → Option VE.Spec := tabOf [(58, wkIn spIn), (23, wkIn spVCol)]
theorem tb106_58 : tb106 58 = some (wkIn spIn) := rfl
theorem tb106_23 : tb106 23 = some (wkIn spVCol) := rfl
theorem tb106_ok : TabOK Tryz.prog rt0 tb106 := (tabOf_cons (by kernel_rfl) sat_impl_in (tabOf_cons (by kernel_rfl) sat_impl_ValidColor tabOf_nil))
set_option maxHeartbeats 4000000 in
theorem sat_impl_ValidStops_0 : Sat Tryz.prog rt0 106 (wkOut spVSt) := by
  refine fn_sat hm ttok (tab := tb106) tb106_ok Tryz.func106 (c := Tryz.f106.body.getD .skip) (by kernel_rfl) (ts := [.tmp 2]) (by kernel_rfl) Tryz.ntmps106 (sq := fun _ => true) (by kernel_rfl) ?_
  intro args ins pk hpre0 hpk
  obtain ⟨rfl, hpre0⟩ := hpre0
  obtain ⟨l, rfl, hpre, hdec⟩ := famPre_ex hpre0
  clear hpre0 hdec
  try simp only [spVSt_pre] at hpre
  replace hpk : pk + 0 ≤ pickLimit := hpk
  refine ⟨Nat.le_of_ble_eq_true rfl, ?_⟩
  simp (config := { maxSteps := 1000000 }) only [go_sem, ↓ifP_true, ↓ifP_false, ↓ifP_not, Nat.reduceLT, Nat.reduceAdd, Nat.reduceBEq, Nat.reduceSub, Nat.reduceLeDiff, Nat.reduceEqDiff, Nat.reduceMul, Int.reduceToNat, Int.reduceEq, Int.reduceLT, Int.reduceLE, Int.reduceAdd, Int.reduceSub, Int.reduceMul, reduceCtorEq, cond_true, cond_false, forall_eq', forall_eq, forall_const, implies_true, if_true, if_false, exists_eq_left', exists_eq', exists_eq, ne_eq, Tryz.f106, tb106_58, tb106_23, spVSt_q, spVSt_A, spVSt_pre, spVSt_post, spIn_q, spIn_A, spIn_pre, spIn_post, spVCol_q, spVCol_A, spVCol_pre, spVCol_post]
  repeat' (first | apply And.intro | (intro _) | omega | assumption | with_reducible rfl)
  any_goals
    refine loopS (α := Int × Int) false [1, 2, 3, 4, 5, 8, 9, 10, 11, 12, 13, 14, 15, 16, 17, 18, 19, 20, 21, 22, 23, 24, 25, 26] (fun σ => []) (fun σ x => [(3, I x.1), (8, I x.2)]) (fun σ x => []) (fun (p, i) => 0) (fun σ => (gI (σ.get 3), gI (σ.get 8))) (fun σ τ => []) (fun (p, i) => 0 ≤ i ∧ i ≤ l.length ∧ (-1 ≤ p ∧ p ≤ 256) ∧ vStp p (l.drop i.toNat) = vStp (-1) l) (fun (p, i) => (l.length - i).toNat) ⟨by (simp (config := { maxSteps := 1000000 }) only [go_sem, ↓ifP_true, ↓ifP_false, ↓ifP_not, Nat.reduceLT, Nat.reduceAdd, Nat.reduceBEq, Nat.reduceSub, Nat.reduceLeDiff, Nat.reduceEqDiff, Nat.reduceMul, Int.reduceToNat, Int.reduceEq, Int.reduceLT, Int.reduceLE, Int.reduceAdd, Int.reduceSub, Int.reduceMul, reduceCtorEq, cond_true, cond_false, forall_eq', forall_eq, forall_const, implies_true, if_true, if_false, exists_eq_left', exists_eq', exists_eq, ne_eq, Tryz.f106, tb106_58, tb106_23, spVSt_q, spVSt_A, spVSt_pre, spVSt_post, spIn_q, spIn_A, spIn_pre, spIn_post, spVCol_q, spVCol_A, spVCol_pre, spVCol_post]; (repeat' (first | apply And.intro | (intro _) | omega | assumption | with_reducible rfl)); all_goals (first | rfl)), ?_⟩
    rintro ⟨p, i⟩ hinv
    try dsimp only at hinv
    rcases elemAt l i (by omega) with ⟨hlt, q, hk⟩ | hlt
    all_goals (first | ((have hlt2 := of_eq_true hlt); (have hS := vStp_step (p := p) hinv.1 hk); all_goals simp (config := { maxSteps := 1000000 }) only [go_sem, ↓ifP_true, ↓ifP_false, ↓ifP_not, Nat.reduceLT, Nat.reduceAdd, Nat.reduceBEq, Nat.reduceSub, Nat.reduceLeDiff, Nat.reduceEqDiff, Nat.reduceMul, Int.reduceToNat, Int.reduceEq, Int.reduceLT, Int.reduceLE, Int.reduceAdd, Int.reduceSub, Int.reduceMul, reduceCtorEq, cond_true, cond_false, forall_eq', forall_eq, forall_const, implies_true, if_true, if_false, exists_eq_left', exists_eq', exists_eq, ne_eq, Tryz.f106, tb106_58, tb106_23, spVSt_q, spVSt_A, spVSt_pre, spVSt_post, spIn_q, spIn_A, spIn_pre, spIn_post, spVCol_q, spVCol_A, spVCol_pre, spVCol_post, hlt, hk]) | (have hlt2 := of_eq_false hlt; simp (config := { maxSteps := 1000000 }) only [go_sem, ↓ifP_true, ↓ifP_false, ↓ifP_not, Nat.reduceLT, Nat.reduceAdd, Nat.reduceBEq, Nat.reduceSub, Nat.reduceLeDiff, Nat.reduceEqDiff, Nat.reduceMul, Int.reduceToNat, Int.reduceEq, Int.reduceLT, Int.reduceLE, Int.reduceAdd, Int.reduceSub, Int.reduceMul, reduceCtorEq, cond_true, cond_false, forall_eq', forall_eq, forall_const, implies_true, if_true, if_false, exists_eq_left', exists_eq', exists_eq, ne_eq, Tryz.f106, tb106_58, tb106_23, spVSt_q, spVSt_A, spVSt_pre, spVSt_post, spIn_q, spIn_A, spIn_pre, spIn_post, spVCol_q, spVCol_A, spVCol_pre, spVCol_post, hlt]))
    all_goals
      repeat' (first | apply And.intro | (intro _) | omega | assumption | with_reducible rfl)
  
  all_goals (first | ((refine (vStops_bad ?_).symm; rw [← hinv.2.2.2, hS]; simp [*]); done) | ((rw [← hinv.2.2.2, hS]; simp [*]); done) | ((rw [vStops_end (by rw [← hinv.2.2.2, vStp_end (by omega)])]); done) | (grind; done))
theorem sat_impl_ValidStops : Sat Tryz.prog rt0 106 (wkIn spVSt) := sat_in (sat_out sat_impl_ValidStops_0)
theorem st_bad {l : List Stp} {i : Int} {q : Stp} (h : vStp (lastW l i) (l.drop i.toNat) = vStp (-1) l) (hS : vStp (lastW l i) (l.drop i.toNat) = (decide (lastW l i + 1 ≤ q.w ∧ q.w ≤ 256) && vCol q.c && vStp q.w (l.drop (i + 1).toNat))) (hb : ¬ (lastW l i + 1 ≤ q.w ∧ q.w ≤ 256)) : false = vStops l := by
  refine (vStops_bad ?_).symm
  rw [← h, hS, decide_eq_false hb]; rfl
theorem st_bad2 {l : List Stp} {i : Int} {q : Stp} (h : vStp (lastW l i) (l.drop i.toNat) = vStp (-1) l) (hS : vStp (lastW l i) (l.drop i.toNat) = (decide (lastW l i + 1 ≤ q.w ∧ q.w ≤ 256) && vCol q.c && vStp q.w (l.drop (i + 1).toNat))) (hb : vCol q.c = false) : false = vStops l := by
  refine (vStops_bad ?_).symm
  rw [← h, hS, hb, Bool.and_false]; rfl
theorem st_next {l : List Stp} {i : Int} {q : Stp} (h : vStp (lastW l i) (l.drop i.toNat) = vStp (-1) l) (hS : vStp (lastW l i) (l.drop i.toNat) = (decide (lastW l i + 1 ≤ q.w ∧ q.w ≤ 256) && vCol q.c && vStp q.w (l.drop (i + 1).toNat))) (hN : lastW l (i + 1) = q.w) (hb : vCol q.c = true) (hw : lastW l i + 1 ≤ q.w ∧ q.w ≤ 256) : vStp (lastW l (i + 1)) (l.drop (i + 1).toNat) = vStp (-1) l := by
  rw [← h, hS, hN, hb, decide_eq_true hw]; rfl
def tb159 : Nat → Option VE.Spec := tabOf [(50, wkIn spIn), (130, wkIn spVCol)]
theorem tb159_50 : tb159 50 = some (wkIn spIn) := rfl
theorem tb159_130 : tb159 130 = some (wkIn spVCol) := rfl
theorem tb159_ok : TabOK Tryz.prog rt0 tb159 := (tabOf_cons (by kernel_rfl) sat_spec_inRange (tabOf_cons (by kernel_rfl) sat_spec_validColor tabOf_nil))
set_option maxHeartbeats 4000000 in
theorem sat_spec_validStops_0 : Sat Tryz.prog rt0 159 (wkOut spVSt) := by
  refine fn_sat hm ttok (tab := tb159) tb159_ok Tryz.func159 (c := Tryz.f159.body.getD .skip) (by kernel_rfl) (ts := [.tmp 2]) (by kernel_rfl) Tryz.ntmps159 (sq := fun _ => true) (by kernel_rfl) ?_
  intro args ins pk hpre0 hpk
  obtain ⟨rfl, hpre0⟩ := hpre0
  obtain ⟨l, rfl, hpre, hdec⟩ := famPre_ex hpre0
  clear hpre0 hdec
  try simp only [spVSt_pre] at hpre
  replace hpk : pk + 0 ≤ pickLimit := hpk
  refine ⟨Nat.le_of_ble_eq_true rfl, ?_⟩
  simp (config := { maxSteps := 1000000 }) only [go_sem, ↓ifP_true, ↓ifP_false, ↓ifP_not, Nat.reduceLT, Nat.reduceAdd, Nat.reduceBEq, Nat.reduceSub, Nat.reduceLeDiff, Nat.reduceEqDiff, Nat.reduceMul, Int.reduceToNat, Int.reduceEq, Int.reduceLT, Int.reduceLE, Int.reduceAdd, Int.reduceSub, Int.reduceMul, reduceCtorEq, cond_true, cond_false, forall_eq', forall_eq, forall_const, implies_true, if_true, if_false, exists_eq_left', exists_eq', exists_eq, ne_eq, Tryz.f159, tb159_50, tb159_130, spVSt_q, spVSt_A, spVSt_pre, spVSt_post, spIn_q, spIn_A, spIn_pre, spIn_post, spVCol_q, spVCol_A, spVCol_pre, spVCol_post]
  repeat' (first | apply And.intro | (intro _) | omega | assumption | with_reducible rfl)
  refine loopS (α := Int) false [1, 2, 3, 4, 5, 6, 7, 8, 9, 10, 11, 12, 13, 14, 15, 16, 17, 18, 19, 20, 21, 22, 23, 24, 25, 26, 27, 28, 29, 30, 31, 32, 33, 34, 35, 36, 37, 38, 39, 40, 41, 42, 43] (fun σ => []) (fun σ x => [(3, I x)]) (fun σ x => []) (fun i => 0) (fun σ => gI (σ.get 3)) (fun σ τ => []) (fun i => 0 ≤ i ∧ i ≤ l.length ∧ -1 ≤ lastW l i ∧ vStp (lastW l i) (l.drop i.toNat) = vStp (-1) l) (fun i => (l.length - i).toNat) ⟨by (simp (config := { maxSteps := 1000000 }) only [go_sem, ↓ifP_true, ↓ifP_false, ↓ifP_not, Nat.reduceLT, Nat.reduceAdd, Nat.reduceBEq, Nat.reduceSub, Nat.reduceLeDiff, Nat.reduceEqDiff, Nat.reduceMul, Int.reduceToNat, Int.reduceEq, Int.reduceLT, Int.reduceLE, Int.reduceAdd, Int.reduceSub, Int.reduceMul, reduceCtorEq, cond_true, cond_false, forall_eq', forall_eq, forall_const, implies_true, if_true, if_false, exists_eq_left', exists_eq', exists_eq, ne_eq, Tryz.f159, tb159_50, tb159_130, spVSt_q, spVSt_A, spVSt_pre, spVSt_post, spIn_q, spIn_A, spIn_pre, spIn_post, spVCol_q, spVCol_A, spVCol_pre, spVCol_post]; (repeat' (first | apply And.intro | (intro _) | omega | assumption | with_reducible rfl)); all_goals (first | rfl | (simp [lastW]))), ?_⟩
  rintro i hinv
  try dsimp only at hinv
  rcases elemAt l i (by omega) with ⟨hlt, q, hk⟩ | hlt
  all_goals (first | ((have hlt2 := of_eq_true hlt); (have hS := vStp_step (p := lastW l i) hinv.1 hk); (have hN := lastW_next hinv.1 hk); (have h00 : i = 0 → lastW l i = -1 := fun h => by rw [h]; rfl); all_goals simp (config := { maxSteps := 1000000 }) only [go_sem, ↓ifP_true, ↓ifP_false, ↓ifP_not, Nat.reduceLT, Nat.reduceAdd, Nat.reduceBEq, Nat.reduceSub, Nat.reduceLeDiff, Nat.reduceEqDiff, Nat.reduceMul, Int.reduceToNat, Int.reduceEq, Int.reduceLT, Int.reduceLE, Int.reduceAdd, Int.reduceSub, Int.reduceMul, reduceCtorEq, cond_true, cond_false, forall_eq', forall_eq, forall_const, implies_true, if_true, if_false, exists_eq_left', exists_eq', exists_eq, ne_eq, Tryz.f159, tb159_50, tb159_130, spVSt_q, spVSt_A, spVSt_pre, spVSt_post, spIn_q, spIn_A, spIn_pre, spIn_post, spVCol_q, spVCol_A, spVCol_pre, spVCol_post, hlt, hk]) | (have hlt2 := of_eq_false hlt; simp (config := { maxSteps := 1000000 }) only [go_sem, ↓ifP_true, ↓ifP_false, ↓ifP_not, Nat.reduceLT, Nat.reduceAdd, Nat.reduceBEq, Nat.reduceSub, Nat.reduceLeDiff, Nat.reduceEqDiff, Nat.reduceMul, Int.reduceToNat, Int.reduceEq, Int.reduceLT, Int.reduceLE, Int.reduceAdd, Int.reduceSub, Int.reduceMul, reduceCtorEq, cond_true, cond_false, forall_eq', forall_eq, forall_const, implies_true, if_true, if_false, exists_eq_left', exists_eq', exists_eq, ne_eq, Tryz.f159, tb159_50, tb159_130, spVSt_q, spVSt_A, spVSt_pre, spVSt_post, spIn_q, spIn_A, spIn_pre, spIn_post, spVCol_q, spVCol_A, spVCol_pre, spVCol_post, hlt]))
  all_goals
    repeat' (first | apply And.intro | (intro _) | omega | assumption | with_reducible rfl)
  all_goals (first | ((have e := lastW_prev (l := l) (i := i) (by omega) ‹l[(i - 1).toNat]? = some _›; refine st_bad hinv.2.2.2 hS ?_; omega); done) | ((have e := lastW_prev (l := l) (i := i) (by omega) ‹l[(i - 1).toNat]? = some _›; refine st_next hinv.2.2.2 hS hN ‹vCol q.c = true› ?_; omega); done) | ((have e := h00 (by omega); refine st_next hinv.2.2.2 hS hN ‹vCol q.c = true› ?_; omega); done) | (exact st_bad2 hinv.2.2.2 hS ‹_›; done) | ((refine st_bad hinv.2.2.2 hS ?_; omega); done) | (exact (vStops_end ((vStp_end hlt2).symm.trans hinv.2.2.2)).symm; done))
theorem sat_spec_validStops : Sat Tryz.prog rt0 159 (wkIn spVSt) := sat_in (sat_out sat_spec_validStops_0)
end Go.Proofs.YtkhplopcjkkejaaGreat
end
section
set_option maxRecDepth 100000
set_option linter.unusedSimpArgs false
set_option linter.unusedVariables false
namespace Go.Proofs.YtkhplopcjkkejaaGreat
open Go Go.VE
def spVPnt_A : Pnt → List AV
  | p => [.agg (pnC p)]
def spVPnt_pre : Pnt → Prop
  | p => p.ss.length ≤ 1000000
def spVPnt_post : Pnt → AV → List Box → Prop
  | p, r, bs => r = B (vPnt p) ∧ bs = []
def spVPnt : VE.Spec := famSpec spVPnt_A d_pn spVPnt_pre spVPnt_post 0 true
theorem spVPnt_q : spVPnt.flat = true ∧ spVPnt.mt = [] ∧ spVPnt.shut = false ∧ spVPnt.cost = 0 ∧ (∀ a i, spVPnt.pre a i = (i = [] ∧ famPre d_pn spVPnt_A spVPnt_pre a)) ∧ ∀ a i r b, spVPnt.post a i r b = (famPost d_pn spVPnt_post a r b) := ⟨rfl, rfl, rfl, rfl, fun _ _ => rfl, fun _ _ _ _ => rfl⟩
def tb66 : Nat → Option VE.Spec := tabOf [(106, wkIn spVSt), (107, wkIn spVPt)]
theorem tb66_106 : tb66 106 = some (wkIn spVSt) := rfl
theorem tb66_107 : tb66 107 = some (wkIn spVPt) := rfl
theorem tb66_ok : TabOK Tryz.prog rt0 tb66 := (tabOf_cons (by kernel_rfl) sat_impl_ValidStops (tabOf_cons (by kernel_rfl) sat_impl_Point_valid tabOf_nil))
set_option maxHeartbeats 4000000 in
theorem sat_impl_Paint_valid_0 : Sat Tryz.prog rt0 66 (wkOut spVPnt) := by
  refine fn_sat hm ttok (tab := tb66) tb66_ok Tryz.func66 (c := Tryz.f66.body.getD .skip) (by kernel_rfl) (ts := [.tmp 2]) (by kernel_rfl) Tryz.ntmps66 (sq := fun _ => true) (by kernel_rfl) ?_
  intro args ins pk hpre0 hpk
  obtain ⟨rfl, hpre0⟩ := hpre0
  obtain ⟨p, rfl, hpre, hdec⟩ := famPre_ex hpre0
  clear hpre0 hdec
  try simp only [spVPnt_pre] at hpre
  replace hpk : pk + 0 ≤ pickLimit := hpk
  refine ⟨Nat.le_of_ble_eq_true rfl, ?_⟩
  simp (config := { maxSteps := 1000000 }) only [go_sem, ↓ifP_true, ↓ifP_false, ↓ifP_not, Nat.reduceLT, Nat.reduceAdd, Nat.reduceBEq, Nat.reduceSub, Nat.reduceLeDiff, Nat.reduceEqDiff, Nat.reduceMul, Int.reduceToNat, Int.reduceEq, Int.reduceLT, Int.reduceLE, Int.reduceAdd, Int.reduceSub, Int.reduceMul, reduceCtorEq, cond_true, cond_false, forall_eq', forall_eq, forall_const, implies_true, if_true, if_false, exists_eq_left', exists_eq', exists_eq, ne_eq, Tryz.f66, tb66_106, tb66_107, spVPnt_q, spVPnt_A, spVPnt_pre, spVPnt_post, spVSt_q, spVSt_A, spVSt_pre, spVSt_post, spVPt_q, spVPt_A, spVPt_pre, spVPt_post]
  repeat' (first | apply And.intro | (intro _) | omega | assumption | with_reducible rfl)
  all_goals (first | (simp [vPnt, *]; done) | (simp_all [vPnt]; done) | (grind [vPnt]; done))
theorem sat_impl_Paint_valid : Sat Tryz.prog rt0 66 (wkIn spVPnt) := sat_in (sat_out sat_impl_Paint_valid_0)
def tb120 : Nat → Option VE.Spec := tabOf [(159, wkIn spVSt), (160, wkIn spVPt)]
theorem tb120_159 : tb120 159 = some (wkIn spVSt) := rfl
theorem tb120_160 : tb120 160 = some (wkIn spVPt) := rfl
theorem tb120_ok : TabOK Tryz.prog rt0 tb120 := (tabOf_cons (by kernel_rfl) sat_spec_validStops (tabOf_cons (by kernel_rfl) sat_spec_validPoint tabOf_nil))
set_option maxHeartbeats 4000000 in
theorem sat_spec_validPaint_0 : Sat Tryz.prog rt0 120 (wkOut spVPnt) := by
  refine fn_sat hm ttok (tab := tb120) tb120_ok Tryz.func120 (c := Tryz.f120.body.getD .skip) (by kernel_rfl) (ts := [.tmp 2]) (by kernel_rfl) Tryz.ntmps120 (sq := fun _ => true) (by kernel_rfl) ?_
  intro args ins pk hpre0 hpk
  obtain ⟨rfl, hpre0⟩ := hpre0
  obtain ⟨p, rfl, hpre, hdec⟩ := famPre_ex hpre0
  clear hpre0 hdec
  try simp only [spVPnt_pre] at hpre
  replace hpk : pk + 0 ≤ pickLimit := hpk
  refine ⟨Nat.le_of_ble_eq_true rfl, ?_⟩
  simp (config := { maxSteps := 1000000 }) only [go_sem, ↓ifP_true, ↓ifP_false, ↓ifP_not, Nat.reduceLT, Nat.reduceAdd, Nat.reduceBEq, Nat.reduceSub, Nat.reduceLeDiff, Nat.reduceEqDiff, Nat.reduceMul, Int.reduceToNat, Int.reduceEq, Int.reduceLT, Int.reduceLE, Int.reduceAdd, Int.reduceSub, Int.reduceMul, reduceCtorEq, cond_true, cond_false, forall_eq', forall_eq, forall_const, implies_true, if_true, if_false, exists_eq_left', exists_eq', exists_eq, ne_eq, Tryz.f120, tb120_159, tb120_160, spVPnt_q, spVPnt_A, spVPnt_pre, spVPnt_post, spVSt_q, spVSt_A, spVSt_pre, spVSt_post, spVPt_q, spVPt_A, spVPt_pre, spVPt_post]
  repeat' (first | apply And.intro | (intro _) | omega | assumption | with_reducible rfl)
  all_goals (first | (simp [vPnt, *]; done) | (simp_all [vPnt]; done) | (grind [vPnt]; done))
theorem sat_spec_validPaint : Sat Tryz.prog rt0 120 (wkIn spVPnt) := sat_in (sat_out sat_spec_validPaint_0)
def spVFil_A : Fil → List AV
  | f => [.agg (flC f)]
def spVFil_pre : Fil → Prop
  | f => okF f
def spVFil_post : Fil → AV → List Box → Prop
  | f, r, bs => r = B (vFil f) ∧ bs = []
def spVFil : VE.Spec := famSpec spVFil_A d_fl spVFil_pre spVFil_post 0 true
theorem spVFil_q : spVFil.flat = true ∧ spVFil.mt = [] ∧ spVFil.shut = false ∧ spVFil.cost = 0 ∧ (∀ a i, spVFil.pre a i = (i = [] ∧ famPre d_fl spVFil_A spVFil_pre a)) ∧ ∀ a i r b, spVFil.post a i r b = (famPost d_fl spVFil_post a r b) := ⟨rfl, rfl, rfl, rfl, fun _ _ => rfl, fun _ _ _ _ => rfl⟩
def tb55 : Nat → Option VE.Spec := tabOf [(60, wkIn spVPath), (61, wkIn spRings), (56, wkIn spVRings), (57, wkIn spRl), (66, wkIn spVPnt)]
theorem tb55_60 : tb55 60 = some (wkIn spVPath) := rfl
theorem tb55_61 : tb55 61 = some (wkIn spRings) := rfl
theorem tb55_56 : tb55 56 = some (wkIn spVRings) := rfl
theorem tb55_57 : tb55 57 = some (wkIn spRl) := rfl
theorem tb55_66 : tb55 66 = some (wkIn spVPnt) := rfl
theorem tb55_ok : TabOK Tryz.prog rt0 tb55 := (tabOf_cons (by kernel_rfl) sat_impl_ValidPath (tabOf_cons (by kernel_rfl) sat_impl_rings (tabOf_cons (by kernel_rfl) sat_impl_ValidRings (tabOf_cons (by kernel_rfl) sat_impl_isRule (tabOf_cons (by kernel_rfl) sat_impl_Paint_valid tabOf_nil)))))
set_option maxHeartbeats 4000000 in
theorem sat_impl_Fill_valid_0 : Sat Tryz.prog rt0 55 (wkOut spVFil) := by
  refine fn_sat hm ttok (tab := tb55) tb55_ok Tryz.func55 (c := Tryz.f55.body.getD .skip) (by kernel_rfl) (ts := [.tmp 2]) (by kernel_rfl) Tryz.ntmps55 (sq := fun _ => true) (by kernel_rfl) ?_
  intro args ins pk hpre0 hpk
  obtain ⟨rfl, hpre0⟩ := hpre0
  obtain ⟨f, rfl, hpre, hdec⟩ := famPre_ex hpre0
  clear hpre0 hdec
  try simp only [spVFil_pre] at hpre
  replace hpk : pk + 0 ≤ pickLimit := hpk
  refine ⟨Nat.le_of_ble_eq_true rfl, ?_⟩
  simp (config := { maxSteps := 1000000 }) only [go_sem, ↓ifP_true, ↓ifP_false, ↓ifP_not, Nat.reduceLT, Nat.reduceAdd, Nat.reduceBEq, Nat.reduceSub, Nat.reduceLeDiff, Nat.reduceEqDiff, Nat.reduceMul, Int.reduceToNat, Int.reduceEq, Int.reduceLT, Int.reduceLE, Int.reduceAdd, Int.reduceSub, Int.reduceMul, reduceCtorEq, cond_true, cond_false, forall_eq', forall_eq, forall_const, implies_true, if_true, if_false, exists_eq_left', exists_eq', exists_eq, ne_eq, Tryz.f55, tb55_60, tb55_61, tb55_56, tb55_57, tb55_66, spVFil_q, spVFil_A, spVFil_pre, spVFil_post, spVPath_q, spVPath_A, spVPath_pre, spVPath_post, spRings_q, spRings_A, spRings_pre, spRings_post, spVRings_q, spVRings_A, spVRings_pre, spVRings_post, spRl_q, spRl_A, spRl_pre, spRl_post, spVPnt_q, spVPnt_A, spVPnt_pre, spVPnt_post]
  repeat' (first | apply And.intro | (intro _) | omega | assumption | with_reducible rfl)
  all_goals (first | ((have h1 := hpre.p; have h2 := hpre.n; have h3 := hpre.s; omega); done) | (exact (rings_tot2 ‹vPath f.p = true›).1; done) | (exact (rings_tot2 ‹vPath f.p = true›).2; done) | (simp [vFil, *]; done) | ((simp only [vFil, *]; simp); done) | ((simp only [vFil, isRl, *]; simp; omega); done) | (simp_all [vFil]; done) | (grind [vFil, isRl]; done))
theorem sat_impl_Fill_valid : Sat Tryz.prog rt0 55 (wkIn spVFil) := sat_in (sat_out sat_impl_Fill_valid_0)
def tb74 : Nat → Option VE.Spec := tabOf [(118, wkIn spVPath), (93, wkIn spRings), (119, wkIn spVRings), (50, wkIn spIn), (120, wkIn spVPnt)]
theorem tb74_118 : tb74 118 = some (wkIn spVPath) := rfl
theorem tb74_93 : tb74 93 = some (wkIn spRings) := rfl
theorem tb74_119 : tb74 119 = some (wkIn spVRings) := rfl
theorem tb74_50 : tb74 50 = some (wkIn spIn) := rfl
theorem tb74_120 : tb74 120 = some (wkIn spVPnt) := rfl
theorem tb74_ok : TabOK Tryz.prog rt0 tb74 := (tabOf_cons (by kernel_rfl) sat_spec_validPath (tabOf_cons (by kernel_rfl) sat_spec_rings (tabOf_cons (by kernel_rfl) sat_spec_validRings (tabOf_cons (by kernel_rfl) sat_spec_inRange (tabOf_cons (by kernel_rfl) sat_spec_validPaint tabOf_nil)))))
set_option maxHeartbeats 4000000 in
theorem sat_spec_validFill_0 : Sat Tryz.prog rt0 74 (wkOut spVFil) := by
  refine fn_sat hm ttok (tab := tb74) tb74_ok Tryz.func74 (c := Tryz.f74.body.getD .skip) (by kernel_rfl) (ts := [.tmp 2]) (by kernel_rfl) Tryz.ntmps74 (sq := fun _ => true) (by kernel_rfl) ?_
  intro args ins pk hpre0 hpk
  obtain ⟨rfl, hpre0⟩ := hpre0
  obtain ⟨f, rfl, hpre, hdec⟩ := famPre_ex hpre0
  clear hpre0 hdec
  try simp only [spVFil_pre] at hpre
  replace hpk : pk + 0 ≤ pickLimit := hpk
  refine ⟨Nat.le_of_ble_eq_true rfl, ?_⟩
  simp (config := { maxSteps := 1000000 }) only [go_sem, ↓ifP_true, ↓ifP_false, ↓ifP_not, Nat.reduceLT, Nat.reduceAdd, Nat.reduceBEq, Nat.reduceSub, Nat.reduceLeDiff, Nat.reduceEqDiff, Nat.reduceMul, Int.reduceToNat, Int.reduceEq, Int.reduceLT, Int.reduceLE, Int.reduceAdd, Int.reduceSub, Int.reduceMul, reduceCtorEq, cond_true, cond_false, forall_eq', forall_eq, forall_const, implies_true, if_true, if_false, exists_eq_left', exists_eq', exists_eq, ne_eq, Tryz.f74, tb74_118, tb74_93, tb74_119, tb74_50, tb74_120, spVFil_q, spVFil_A, spVFil_pre, spVFil_post, spVPath_q, spVPath_A, spVPath_pre, spVPath_post, spRings_q, spRings_A, spRings_pre, spRings_post, spVRings_q, spVRings_A, spVRings_pre, spVRings_post, spIn_q, spIn_A, spIn_pre, spIn_post, spVPnt_q, spVPnt_A, spVPnt_pre, spVPnt_post]
  repeat' (first | apply And.intro | (intro _) | omega | assumption | with_reducible rfl)
  all_goals (first | ((have h1 := hpre.p; have h2 := hpre.n; have h3 := hpre.s; omega); done) | (exact (rings_tot2 ‹vPath f.p = true›).1; done) | (exact (rings_tot2 ‹vPath f.p = true›).2; done) | (simp [vFil, *]; done) | ((simp only [vFil, *]; simp); done) | ((simp only [vFil, isRl, *]; simp; omega); done) | (simp_all [vFil]; done) | (grind [vFil, isRl]; done))
theorem sat_spec_validFill : Sat Tryz.prog rt0 74 (wkIn spVFil) := sat_in (sat_out sat_spec_validFill_0)
def spNVFil_A : Fil → List AV
  | f => [.agg (flC f)]
def spNVFil_pre : Fil → Prop
  | f => okF f
def spNVFil_post : Fil → AV → List Box → Prop
  | f, r, bs => r = B (!vFil f) ∧ bs = []
def spNVFil : VE.Spec := famSpec spNVFil_A d_fl spNVFil_pre spNVFil_post 0 true
theorem spNVFil_q : spNVFil.flat = true ∧ spNVFil.mt = [] ∧ spNVFil.shut = false ∧ spNVFil.cost = 0 ∧ (∀ a i, spNVFil.pre a i = (i = [] ∧ famPre d_fl spNVFil_A spNVFil_pre a)) ∧ ∀ a i r b, spNVFil.post a i r b = (famPost d_fl spNVFil_post a r b) := ⟨rfl, rfl, rfl, rfl, fun _ _ => rfl, fun _ _ _ _ => rfl⟩
def tb54 : Nat → Option VE.Spec := tabOf [(55, wkIn spVFil)]
theorem tb54_55 : tb54 55 = some (wkIn spVFil) := rfl
theorem tb54_ok : TabOK Tryz.prog rt0 tb54 := (tabOf_cons (by kernel_rfl) sat_impl_Fill_valid tabOf_nil)
set_option maxHeartbeats 4000000 in
theorem sat_impl_ValidScene_1_0 : Sat Tryz.prog rt0 54 (wkOut spNVFil) := by
  refine fn_sat hm ttok (tab := tb54) tb54_ok Tryz.func54 (c := Tryz.f54.body.getD .skip) (by kernel_rfl) (ts := [.tmp 2]) (by kernel_rfl) Tryz.ntmps54 (sq := fun _ => true) (by kernel_rfl) ?_
  intro args ins pk hpre0 hpk
  obtain ⟨rfl, hpre0⟩ := hpre0
  obtain ⟨f, rfl, hpre, hdec⟩ := famPre_ex hpre0
  clear hpre0 hdec
  try simp only [spNVFil_pre] at hpre
  replace hpk : pk + 0 ≤ pickLimit := hpk
  refine ⟨Nat.le_of_ble_eq_true rfl, ?_⟩
  simp (config := { maxSteps := 1000000 }) only [go_sem, ↓ifP_true, ↓ifP_false, ↓ifP_not, Nat.reduceLT, Nat.reduceAdd, Nat.reduceBEq, Nat.reduceSub, Nat.reduceLeDiff, Nat.reduceEqDiff, Nat.reduceMul, Int.reduceToNat, Int.reduceEq, Int.reduceLT, Int.reduceLE, Int.reduceAdd, Int.reduceSub, Int.reduceMul, reduceCtorEq, cond_true, cond_false, forall_eq', forall_eq, forall_const, implies_true, if_true, if_false, exists_eq_left', exists_eq', exists_eq, ne_eq, Tryz.f54, tb54_55, spNVFil_q, spNVFil_A, spNVFil_pre, spNVFil_post, spVFil_q, spVFil_A, spVFil_pre, spVFil_post]
  repeat' (first | apply And.intro | (intro _) | omega | assumption | with_reducible rfl)
theorem sat_impl_ValidScene_1 : Sat Tryz.prog rt0 54 (wkIn spNVFil) := sat_in (sat_out sat_impl_ValidScene_1_0)
end Go.Proofs.YtkhplopcjkkejaaGreat
end
section
set_option maxRecDepth 100000
set_option linter.unusedSimpArgs false
set_option linter.unusedVariables false
namespace Go.Proofs.YtkhplopcjkkejaaGreat
open Go Go.VE
def spIdxF_A : (List Fil) → List AV
  | l => [.c (.sl false (l.map flC)), .c (.fn 54 [])]
def spIdxF_pre : (List Fil) → Prop
  | l => okFs l
def spIdxF_post : (List Fil) → AV → List Box → Prop
  | l, r, bs => ∃ m, r = I m ∧ bs = [] ∧ decide (0 ≤ m) = (!l.all vFil)
def spIdxF : VE.Spec := famSpec spIdxF_A d_lfl_f54 spIdxF_pre spIdxF_post 0 true
theorem spIdxF_q : spIdxF.flat = true ∧ spIdxF.mt = [] ∧ spIdxF.shut = false ∧ spIdxF.cost = 0 ∧ (∀ a i, spIdxF.pre a i = (i = [] ∧ famPre d_lfl_f54 spIdxF_A spIdxF_pre a)) ∧ ∀ a i r b, spIdxF.post a i r b = (famPost d_lfl_f54 spIdxF_post a r b) := ⟨rfl, rfl, rfl, rfl, fun _ _ => rfl, fun _ _ _ _ => rfl⟩
def tb97 : Nat → Option VE.Spec := tabOf [(54, wkIn spNVFil)]
theorem tb97_54 : tb97 54 = some (wkIn spNVFil) := rfl
theorem tb97_ok : TabOK Tryz.prog rt0 tb97 := (tabOf_cons (by kernel_rfl) sat_impl_ValidScene_1 tabOf_nil)
set_option maxHeartbeats 4000000 in
theorem sat_slices_IndexFunc_impl_Fill_impl_Fill_0 : Sat Tryz.prog rt0 97 (wkOut spIdxF) := by
  refine fn_sat hm ttok (tab := tb97) tb97_ok Tryz.func97 (c := Tryz.f97.body.getD .skip) (by kernel_rfl) (ts := [.tmp 4]) (by kernel_rfl) Tryz.ntmps97 (sq := fun _ => true) (by kernel_rfl) ?_
  intro args ins pk hpre0 hpk
  obtain ⟨rfl, hpre0⟩ := hpre0
  obtain ⟨l, rfl, hpre, hdec⟩ := famPre_ex hpre0
  clear hpre0 hdec
  try simp only [spIdxF_pre] at hpre
  replace hpk : pk + 0 ≤ pickLimit := hpk
  refine ⟨Nat.le_of_ble_eq_true rfl, ?_⟩
  simp (config := { maxSteps := 1000000 }) only [go_sem, ↓ifP_true, ↓ifP_false, ↓ifP_not, Nat.reduceLT, Nat.reduceAdd, Nat.reduceBEq, Nat.reduceSub, Nat.reduceLeDiff, Nat.reduceEqDiff, Nat.reduceMul, Int.reduceToNat, Int.reduceEq, Int.reduceLT, Int.reduceLE, Int.reduceAdd, Int.reduceSub, Int.reduceMul, reduceCtorEq, cond_true, cond_false, forall_eq', forall_eq, forall_const, implies_true, if_true, if_false, exists_eq_left', exists_eq', exists_eq, ne_eq, Tryz.f97, tb97_54, spIdxF_q, spIdxF_A, spIdxF_pre, spIdxF_post, spNVFil_q, spNVFil_A, spNVFil_pre, spNVFil_post]
  repeat' (first | apply And.intro | (intro _) | omega | assumption | with_reducible rfl)
  refine loopS (α := Int) false [2, 3, 4, 5, 6, 8, 9, 10, 11, 12, 13, 14, 15, 16, 17, 18] (fun σ => []) (fun σ x => [(8, I x)]) (fun σ x => []) (fun i => 0) (fun σ => gI (σ.get 8)) (fun σ τ => []) (fun i => 0 ≤ i ∧ i ≤ l.length ∧ (l.take i.toNat).all vFil = true) (fun i => (l.length - i).toNat) ⟨by (simp (config := { maxSteps := 1000000 }) only [go_sem, ↓ifP_true, ↓ifP_false, ↓ifP_not, Nat.reduceLT, Nat.reduceAdd, Nat.reduceBEq, Nat.reduceSub, Nat.reduceLeDiff, Nat.reduceEqDiff, Nat.reduceMul, Int.reduceToNat, Int.reduceEq, Int.reduceLT, Int.reduceLE, Int.reduceAdd, Int.reduceSub, Int.reduceMul, reduceCtorEq, cond_true, cond_false, forall_eq', forall_eq, forall_const, implies_true, if_true, if_false, exists_eq_left', exists_eq', exists_eq, ne_eq, Tryz.f97, tb97_54, spIdxF_q, spIdxF_A, spIdxF_pre, spIdxF_post, spNVFil_q, spNVFil_A, spNVFil_pre, spNVFil_post]; (repeat' (first | apply And.intro | (intro hh; first | (have h9 := okFs_at hpre hh) | skip) | omega | assumption | with_reducible rfl))), ?_⟩
  rintro i hinv
  try dsimp only at hinv
  simp (config := { maxSteps := 1000000 }) only [go_sem, ↓ifP_true, ↓ifP_false, ↓ifP_not, Nat.reduceLT, Nat.reduceAdd, Nat.reduceBEq, Nat.reduceSub, Nat.reduceLeDiff, Nat.reduceEqDiff, Nat.reduceMul, Int.reduceToNat, Int.reduceEq, Int.reduceLT, Int.reduceLE, Int.reduceAdd, Int.reduceSub, Int.reduceMul, reduceCtorEq, cond_true, cond_false, forall_eq', forall_eq, forall_const, implies_true, if_true, if_false, exists_eq_left', exists_eq', exists_eq, ne_eq, Tryz.f97, tb97_54, spIdxF_q, spIdxF_A, spIdxF_pre, spIdxF_post, spNVFil_q, spNVFil_A, spNVFil_pre, spNVFil_post]
  have hpl := hpre.len
  repeat' (first | apply And.intro | (intro hh; first | (have h9 := okFs_at hpre hh) | skip) | omega | assumption | with_reducible rfl)
  all_goals (first | (exact okFs_at hpre ‹_›; done) | (grind [→ takeN, takeA, all_bad]; done))
theorem sat_slices_IndexFunc_impl_Fill_impl_Fill : Sat Tryz.prog rt0 97 (wkIn spIdxF) := sat_in (sat_out sat_slices_IndexFunc_impl_Fill_impl_Fill_0)
def spHasF_A : (List Fil) → List AV
  | l => [.c (.sl false (l.map flC)), .c (.fn 54 [])]
def spHasF_pre : (List Fil) → Prop
  | l => okFs l
def spHasF_post : (List Fil) → AV → List Box → Prop
  | l, r, bs => r = B (!l.all vFil) ∧ bs = []
def spHasF : VE.Spec := famSpec spHasF_A d_lfl_f54 spHasF_pre spHasF_post 0 true
theorem spHasF_q : spHasF.flat = true ∧ spHasF.mt = [] ∧ spHasF.shut = false ∧ spHasF.cost = 0 ∧ (∀ a i, spHasF.pre a i = (i = [] ∧ famPre d_lfl_f54 spHasF_A spHasF_pre a)) ∧ ∀ a i r b, spHasF.post a i r b = (famPost d_lfl_f54 spHasF_post a r b) := ⟨rfl, rfl, rfl, rfl, fun _ _ => rfl, fun _ _ _ _ => rfl⟩
def tb53 : Nat → Option VE.Spec := tabOf [(97, wkIn spIdxF)]
theorem tb53_97 : tb53 97 = some (wkIn spIdxF) := rfl
theorem tb53_ok : TabOK Tryz.prog rt0 tb53 := (tabOf_cons (by kernel_rfl) sat_slices_IndexFunc_impl_Fill_impl_Fill tabOf_nil)
set_option maxHeartbeats 4000000 in
theorem sat_slices_ContainsFunc_impl_Fill_impl_Fill_0 : Sat Tryz.prog rt0 53 (wkOut spHasF) := by
  refine fn_sat hm ttok (tab := tb53) tb53_ok Tryz.func53 (c := Tryz.f53.body.getD .skip) (by kernel_rfl) (ts := [.tmp 4]) (by kernel_rfl) Tryz.ntmps53 (sq := fun _ => true) (by kernel_rfl) ?_
  intro args ins pk hpre0 hpk
  obtain ⟨rfl, hpre0⟩ := hpre0
  obtain ⟨l, rfl, hpre, hdec⟩ := famPre_ex hpre0
  clear hpre0 hdec
  try simp only [spHasF_pre] at hpre
  replace hpk : pk + 0 ≤ pickLimit := hpk
  refine ⟨Nat.le_of_ble_eq_true rfl, ?_⟩
  simp (config := { maxSteps := 1000000 }) only [go_sem, ↓ifP_true, ↓ifP_false, ↓ifP_not, Nat.reduceLT, Nat.reduceAdd, Nat.reduceBEq, Nat.reduceSub, Nat.reduceLeDiff, Nat.reduceEqDiff, Nat.reduceMul, Int.reduceToNat, Int.reduceEq, Int.reduceLT, Int.reduceLE, Int.reduceAdd, Int.reduceSub, Int.reduceMul, reduceCtorEq, cond_true, cond_false, forall_eq', forall_eq, forall_const, implies_true, if_true, if_false, exists_eq_left', exists_eq', exists_eq, ne_eq, Tryz.f53, tb53_97, spHasF_q, spHasF_A, spHasF_pre, spHasF_post, spIdxF_q, spIdxF_A, spIdxF_pre, spIdxF_post]
  repeat' (first | apply And.intro | (intro _) | omega | assumption | with_reducible rfl)
  all_goals (first | (grind; done))
theorem sat_slices_ContainsFunc_impl_Fill_impl_Fill : Sat Tryz.prog rt0 53 (wkIn spHasF) := sat_in (sat_out sat_slices_ContainsFunc_impl_Fill_impl_Fill_0)
def spVScn_A : Scn → List AV
  | s => [.agg (scC s)]
def spVScn_pre : Scn → Prop
  | s => okFs s.fs
def spVScn_post : Scn → AV → List Box → Prop
  | s, r, bs => r = B (vScn s) ∧ bs = []
def spVScn : VE.Spec := famSpec spVScn_A d_sc spVScn_pre spVScn_post 0 true
theorem spVScn_q : spVScn.flat = true ∧ spVScn.mt = [] ∧ spVScn.shut = false ∧ spVScn.cost = 0 ∧ (∀ a i, spVScn.pre a i = (i = [] ∧ famPre d_sc spVScn_A spVScn_pre a)) ∧ ∀ a i r b, spVScn.post a i r b = (famPost d_sc spVScn_post a r b) := ⟨rfl, rfl, rfl, rfl, fun _ _ => rfl, fun _ _ _ _ => rfl⟩
def tb17 : Nat → Option VE.Spec := tabOf [(52, wkIn spSzd), (53, wkIn spHasF)]
theorem tb17_52 : tb17 52 = some (wkIn spSzd) := rfl
theorem tb17_53 : tb17 53 = some (wkIn spHasF) := rfl
theorem tb17_ok : TabOK Tryz.prog rt0 tb17 := (tabOf_cons (by kernel_rfl) sat_impl_sized (tabOf_cons (by kernel_rfl) sat_slices_ContainsFunc_impl_Fill_impl_Fill tabOf_nil))
set_option maxHeartbeats 4000000 in
theorem sat_impl_ValidScene_0 : Sat Tryz.prog rt0 17 (wkOut spVScn) := by
  refine fn_sat hm ttok (tab := tb17) tb17_ok Tryz.func17 (c := Tryz.f17.body.getD .skip) (by kernel_rfl) (ts := [.tmp 2]) (by kernel_rfl) Tryz.ntmps17 (sq := fun _ => true) (by kernel_rfl) ?_
  intro args ins pk hpre0 hpk
  obtain ⟨rfl, hpre0⟩ := hpre0
  obtain ⟨s, rfl, hpre, hdec⟩ := famPre_ex hpre0
  clear hpre0 hdec
  try simp only [spVScn_pre] at hpre
  replace hpk : pk + 0 ≤ pickLimit := hpk
  refine ⟨Nat.le_of_ble_eq_true rfl, ?_⟩
  simp (config := { maxSteps := 1000000 }) only [go_sem, ↓ifP_true, ↓ifP_false, ↓ifP_not, Nat.reduceLT, Nat.reduceAdd, Nat.reduceBEq, Nat.reduceSub, Nat.reduceLeDiff, Nat.reduceEqDiff, Nat.reduceMul, Int.reduceToNat, Int.reduceEq, Int.reduceLT, Int.reduceLE, Int.reduceAdd, Int.reduceSub, Int.reduceMul, reduceCtorEq, cond_true, cond_false, forall_eq', forall_eq, forall_const, implies_true, if_true, if_false, exists_eq_left', exists_eq', exists_eq, ne_eq, Tryz.f17, tb17_52, tb17_53, spVScn_q, spVScn_A, spVScn_pre, spVScn_post, spSzd_q, spSzd_A, spSzd_pre, spSzd_post, spHasF_q, spHasF_A, spHasF_pre, spHasF_post]
  repeat' (first | apply And.intro | (intro _) | omega | assumption | with_reducible rfl)
  all_goals (first | (exact hpre; done) | (simp [vScn, *]; done) | (grind [vScn]; done))
theorem sat_impl_ValidScene : Sat Tryz.prog rt0 17 (wkIn spVScn) := sat_in (sat_out sat_impl_ValidScene_0)
theorem all_end {l : List Fil} {i : Int} (h : ¬ i < (l.length : Int)) (h2 : (l.take i.toNat).all vFil = true) : l.all vFil = true := by rwa [takeA (by omega)] at h2
def tb49 : Nat → Option VE.Spec := tabOf [(74, wkIn spVFil), (91, wkIn spSzd)]
theorem tb49_74 : tb49 74 = some (wkIn spVFil) := rfl
theorem tb49_91 : tb49 91 = some (wkIn spSzd) := rfl
theorem tb49_ok : TabOK Tryz.prog rt0 tb49 := (tabOf_cons (by kernel_rfl) sat_spec_validFill (tabOf_cons (by kernel_rfl) sat_spec_validSize tabOf_nil))
set_option maxHeartbeats 4000000 in
theorem sat_spec_validScene_0 : Sat Tryz.prog rt0 49 (wkOut spVScn) := by
  refine fn_sat hm ttok (tab := tb49) tb49_ok Tryz.func49 (c := Tryz.f49.body.getD .skip) (by kernel_rfl) (ts := [.tmp 2]) (by kernel_rfl) Tryz.ntmps49 (sq := fun _ => true) (by kernel_rfl) ?_
  intro args ins pk hpre0 hpk
  obtain ⟨rfl, hpre0⟩ := hpre0
  obtain ⟨s, rfl, hpre, hdec⟩ := famPre_ex hpre0
  clear hpre0 hdec
  try simp only [spVScn_pre] at hpre
  replace hpk : pk + 0 ≤ pickLimit := hpk
  refine ⟨Nat.le_of_ble_eq_true rfl, ?_⟩
  simp (config := { maxSteps := 1000000 }) only [go_sem, ↓ifP_true, ↓ifP_false, ↓ifP_not, Nat.reduceLT, Nat.reduceAdd, Nat.reduceBEq, Nat.reduceSub, Nat.reduceLeDiff, Nat.reduceEqDiff, Nat.reduceMul, Int.reduceToNat, Int.reduceEq, Int.reduceLT, Int.reduceLE, Int.reduceAdd, Int.reduceSub, Int.reduceMul, reduceCtorEq, cond_true, cond_false, forall_eq', forall_eq, forall_const, implies_true, if_true, if_false, exists_eq_left', exists_eq', exists_eq, ne_eq, Tryz.f49, tb49_74, tb49_91, spVScn_q, spVScn_A, spVScn_pre, spVScn_post, spVFil_q, spVFil_A, spVFil_pre, spVFil_post, spSzd_q, spSzd_A, spSzd_pre, spSzd_post]
  repeat' (first | apply And.intro | (intro _) | omega | assumption | with_reducible rfl)
  refine loopS (α := Int) false [0, 2, 3, 4, 5, 6, 7, 8, 9, 10, 11, 12, 13, 14, 15, 16, 17] (fun σ => []) (fun σ x => [(3, I x)]) (fun σ x => []) (fun i => 0) (fun σ => gI (σ.get 3)) (fun σ τ => []) (fun i => 0 ≤ i ∧ i ≤ s.fs.length ∧ (s.fs.take i.toNat).all vFil = true) (fun i => (s.fs.length - i).toNat) ⟨by (simp (config := { maxSteps := 1000000 }) only [go_sem, ↓ifP_true, ↓ifP_false, ↓ifP_not, Nat.reduceLT, Nat.reduceAdd, Nat.reduceBEq, Nat.reduceSub, Nat.reduceLeDiff, Nat.reduceEqDiff, Nat.reduceMul, Int.reduceToNat, Int.reduceEq, Int.reduceLT, Int.reduceLE, Int.reduceAdd, Int.reduceSub, Int.reduceMul, reduceCtorEq, cond_true, cond_false, forall_eq', forall_eq, forall_const, implies_true, if_true, if_false, exists_eq_left', exists_eq', exists_eq, ne_eq, Tryz.f49, tb49_74, tb49_91, spVScn_q, spVScn_A, spVScn_pre, spVScn_post, spVFil_q, spVFil_A, spVFil_pre, spVFil_post, spSzd_q, spSzd_A, spSzd_pre, spSzd_post]; (repeat' (first | apply And.intro | (intro _) | omega | assumption | with_reducible rfl))), ?_⟩
  rintro i hinv
  try dsimp only at hinv
  rcases elemAt s.fs i (by omega) with ⟨hlt, f, hk⟩ | hlt
  all_goals (first | ((have hlt2 := of_eq_true hlt); (have hf := okFs_at hpre hk); (have hpl := hpre.len); all_goals simp (config := { maxSteps := 1000000 }) only [go_sem, ↓ifP_true, ↓ifP_false, ↓ifP_not, Nat.reduceLT, Nat.reduceAdd, Nat.reduceBEq, Nat.reduceSub, Nat.reduceLeDiff, Nat.reduceEqDiff, Nat.reduceMul, Int.reduceToNat, Int.reduceEq, Int.reduceLT, Int.reduceLE, Int.reduceAdd, Int.reduceSub, Int.reduceMul, reduceCtorEq, cond_true, cond_false, forall_eq', forall_eq, forall_const, implies_true, if_true, if_false, exists_eq_left', exists_eq', exists_eq, ne_eq, Tryz.f49, tb49_74, tb49_91, spVScn_q, spVScn_A, spVScn_pre, spVScn_post, spVFil_q, spVFil_A, spVFil_pre, spVFil_post, spSzd_q, spSzd_A, spSzd_pre, spSzd_post, hlt, hk]) | (have hlt2 := of_eq_false hlt; simp (config := { maxSteps := 1000000 }) only [go_sem, ↓ifP_true, ↓ifP_false, ↓ifP_not, Nat.reduceLT, Nat.reduceAdd, Nat.reduceBEq, Nat.reduceSub, Nat.reduceLeDiff, Nat.reduceEqDiff, Nat.reduceMul, Int.reduceToNat, Int.reduceEq, Int.reduceLT, Int.reduceLE, Int.reduceAdd, Int.reduceSub, Int.reduceMul, reduceCtorEq, cond_true, cond_false, forall_eq', forall_eq, forall_const, implies_true, if_true, if_false, exists_eq_left', exists_eq', exists_eq, ne_eq, Tryz.f49, tb49_74, tb49_91, spVScn_q, spVScn_A, spVScn_pre, spVScn_post, spVFil_q, spVFil_A, spVFil_pre, spVFil_post, spSzd_q, spSzd_A, spSzd_pre, spSzd_post, hlt]))
  all_goals
    repeat' (first | apply And.intro | (intro _) | omega | assumption | with_reducible rfl)
  all_goals (first | ((have hpl := hpre.len; omega); done) | (exact okFs_at hpre ‹_›; done) | ((rw [takeN hk hinv.1, List.all_append, hinv.2.2]; simp [*]); done) | ((have h9 := all_bad hk ‹vFil f = false›; simp [vScn, h9]); done) | ((have h9 := all_end hlt2 hinv.2.2; simp [vScn, *]); done) | (grind [vScn, → takeN, takeA, all_bad]; done))
theorem sat_spec_validScene : Sat Tryz.prog rt0 49 (wkIn spVScn) := sat_in (sat_out sat_spec_validScene_0)
end Go.Proofs.YtkhplopcjkkejaaGreat
end
