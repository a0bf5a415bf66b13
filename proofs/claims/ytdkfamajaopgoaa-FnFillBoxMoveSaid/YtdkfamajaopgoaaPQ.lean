/- Contracts of functions of the program vectorraster, each proved for all states that fit its description. No conditions. -/
import Derived.Test.YtdkfamajaopgoaaPA
import Derived.Test.YtdkfamajaopgoaaKS
import Derived.Test.YtdkfamajaopgoaaPO
import Derived.Test.YtdkfamajaopgoaaPE
import Derived.Test.YtdkfamajaopgoaaPC
import Derived.Test.YtdkfamajaopgoaaPF
import Derived.Test.YtdkfamajaopgoaaPD
set_option linter.unusedSimpArgs false
set_option linter.unusedVariables false
section
set_option maxRecDepth 100000
set_option linter.unusedSimpArgs false
set_option linter.unusedVariables false
namespace Go.Proofs.Ytdkfamajaopgoaa
open Go Go.VE
def vCol (c : Colr) : Bool := decide (0 ≤ c.a ∧ c.a ≤ 255) && decide (0 ≤ c.r ∧ c.r ≤ c.a) && decide (0 ≤ c.g ∧ c.g ≤ c.a) && decide (0 ≤ c.b ∧ c.b ≤ c.a)
def vStp : Int → List Stp → Bool
  | _, [] => true
  | p, s :: r => decide (p + 1 ≤ s.w ∧ s.w ≤ 256) && vCol s.c && vStp s.w r
def vStops (l : List Stp) : Bool := vStp (-1) l && decide (1 ≤ l.length ∧ l.length ≤ 4)
def lastW (l : List Stp) (i : Int) : Int := if i = 0 then -1 else ((l[(i - 1).toNat]?).map (·.w)).getD (-1)
theorem lastW_0 (l : List Stp) : lastW l 0 = -1 := rfl
theorem lastW_prev {l : List Stp} {i : Int} {s : Stp} (hi : ¬ i = 0) (h : l[(i - 1).toNat]? = some s) : lastW l i = s.w := by
  rw [lastW, if_neg hi, h]; rfl
theorem lastW_next {l : List Stp} {i : Int} {s : Stp} (h0 : 0 ≤ i) (h : l[i.toNat]? = some s) : lastW l (i + 1) = s.w := lastW_prev (by omega) (by rwa [show i + 1 - 1 = i by omega])
theorem vStp_step {l : List Stp} {i p : Int} {s : Stp} (h0 : 0 ≤ i) (h : l[i.toNat]? = some s) : vStp p (l.drop i.toNat) = (decide (p + 1 ≤ s.w ∧ s.w ≤ 256) && vCol s.c && vStp s.w (l.drop (i + 1).toNat)) := by
  rw [dropN h h0]; rfl
theorem vStops_bad {l : List Stp} (h : vStp (-1) l = false) : vStops l = false := by rw [vStops, h]; rfl
theorem vStp_end {l : List Stp} {i p : Int} (h : ¬ i < (l.length : Int)) : vStp p (l.drop i.toNat) = true := by
  rw [List.drop_eq_nil_of_le (by omega)]; rfl
theorem vStops_end {l : List Stp} (h : true = vStp (-1) l) : vStops l = decide (1 ≤ (l.length : Int) ∧ (l.length : Int) ≤ 4) := by
  rw [vStops, ← h, Bool.true_and, decide_eq_decide]; omega
def vPnt (p : Pnt) : Bool := vStops p.ss && vPt p.f && vPt p.t
def vFil (f : Fil) : Bool := vPath f.p && vRings (ringsOf f.p) && isRl f.rl && vPnt f.pn
def vScn (s : Scn) : Bool := szd s.w s.h && decide (s.fs.length ≤ 4) && s.fs.all vFil
structure okF (f : Fil) : Prop where
  p : f.p.length ≤ 1000
  n : nPts f.p ≤ 1000
  s : f.pn.ss.length ≤ 1000
structure okFs (l : List Fil) : Prop where
  len : l.length ≤ 1000
  all : ∀ f ∈ l, okF f
theorem okFs_at {l : List Fil} {i : Int} {f : Fil} (h : okFs l) (hf : l[i.toNat]? = some f) : okF f := h.all f (List.mem_of_getElem? hf)
theorem okFs_nil : okFs [] := ⟨by simp, fun f hf => by cases hf⟩
theorem okFs_snoc {l : List Fil} {f : Fil} (h : okFs l) (hl : l.length ≤ 900) (hf : okF f) : okFs (l ++ [f]) := ⟨by simp; omega, fun g hg => (List.mem_append.1 hg).elim (h.all g) fun hg => by rw [List.mem_singleton] at hg; exact hg ▸ hf⟩
end Go.Proofs.Ytdkfamajaopgoaa
end
section
set_option maxRecDepth 100000
set_option linter.unusedSimpArgs false
set_option linter.unusedVariables false
namespace Go.Proofs.Ytdkfamajaopgoaa
open Go Go.VE
def spAll_A : (List Int) × Int × Int → List AV
  | (l, lo, hi) => [.c (.sl false (l.map intC)), I lo, I hi]
def spAll_pre : (List Int) × Int × Int → Prop
  | (l, lo, hi) => l.length ≤ 1000000
def spAll_post : (List Int) × Int × Int → AV → List Box → Prop
  | (l, lo, hi), r, bs => r = B (l.all fun n => decide (lo ≤ n ∧ n ≤ hi)) ∧ bs = []
def spAll : VE.Spec := famSpec spAll_A d_li_i_i spAll_pre spAll_post 0 true
theorem spAll_q : spAll.flat = true ∧ spAll.mt = [] ∧ spAll.shut = false ∧ spAll.cost = 0 ∧ (∀ a i, spAll.pre a i = (i = [] ∧ famPre d_li_i_i spAll_A spAll_pre a)) ∧ ∀ a i r b, spAll.post a i r b = (famPost d_li_i_i spAll_post a r b) := ⟨rfl, rfl, rfl, rfl, fun _ _ => rfl, fun _ _ _ _ => rfl⟩
def tb161 : Nat → Option VE.Spec := tabOf [(62, wkIn spIn)]
theorem tb161_62 : tb161 62 = some (wkIn spIn) := rfl
theorem tb161_ok : TabOK Try.prog rt0 tb161 := (tabOf_cons (by kernel_rfl) sat_spec_inRange tabOf_nil)
set_option maxHeartbeats 4000000 in
theorem sat_spec_allIn_0 : Sat Try.prog rt0 161 (wkOut spAll) := by
  refine fn_sat hm ttok (tab := tb161) tb161_ok Try.func161 (c := Try.f161.body.getD .skip) (by kernel_rfl) (ts := [.tmp 6]) (by kernel_rfl) Try.ntmps161 (sq := fun _ => true) (by kernel_rfl) ?_
  intro args ins pk hpre0 hpk
  obtain ⟨rfl, hpre0⟩ := hpre0
  obtain ⟨⟨l, lo, hi⟩, rfl, hpre, hdec⟩ := famPre_ex hpre0
  clear hpre0 hdec
  try simp only [spAll_pre] at hpre
  replace hpk : pk + 0 ≤ pickLimit := hpk
  refine ⟨Nat.le_of_ble_eq_true rfl, ?_⟩
  simp (config := { maxSteps := 1000000 }) only [go_sem, ↓ifP_true, ↓ifP_false, ↓ifP_not, Nat.reduceLT, Nat.reduceAdd, Nat.reduceBEq, Nat.reduceSub, Nat.reduceLeDiff, Nat.reduceEqDiff, Nat.reduceMul, Int.reduceToNat, Int.reduceEq, Int.reduceLT, Int.reduceLE, Int.reduceAdd, Int.reduceSub, Int.reduceMul, reduceCtorEq, cond_true, cond_false, forall_eq', forall_eq, forall_const, implies_true, if_true, if_false, exists_eq_left', exists_eq', exists_eq, ne_eq, Try.f161, tb161_62, spAll_q, spAll_A, spAll_pre, spAll_post, spIn_q, spIn_A, spIn_pre, spIn_post]
  repeat' (first | apply And.intro | (intro _) | omega | assumption | with_reducible rfl)
  refine loopS (α := Int) false [3, 4, 5, 6, 7, 8, 9, 10, 11, 12, 13, 14, 15, 16, 17, 18, 19, 20, 21] (fun σ => []) (fun σ x => [(7, I x)]) (fun σ x => []) (fun i => 0) (fun σ => gI (σ.get 7)) (fun σ τ => []) (fun i => 0 ≤ i ∧ i ≤ l.length ∧ ((l.take i.toNat).all fun n => decide (lo ≤ n ∧ n ≤ hi)) = true) (fun i => (l.length - i).toNat) ⟨by (simp (config := { maxSteps := 1000000 }) only [go_sem, ↓ifP_true, ↓ifP_false, ↓ifP_not, Nat.reduceLT, Nat.reduceAdd, Nat.reduceBEq, Nat.reduceSub, Nat.reduceLeDiff, Nat.reduceEqDiff, Nat.reduceMul, Int.reduceToNat, Int.reduceEq, Int.reduceLT, Int.reduceLE, Int.reduceAdd, Int.reduceSub, Int.reduceMul, reduceCtorEq, cond_true, cond_false, forall_eq', forall_eq, forall_const, implies_true, if_true, if_false, exists_eq_left', exists_eq', exists_eq, ne_eq, Try.f161, tb161_62, spAll_q, spAll_A, spAll_pre, spAll_post, spIn_q, spIn_A, spIn_pre, spIn_post]; (repeat' (first | apply And.intro | (intro _) | omega | assumption | with_reducible rfl))), ?_⟩
  rintro i hinv
  try dsimp only at hinv
  simp (config := { maxSteps := 1000000 }) only [go_sem, ↓ifP_true, ↓ifP_false, ↓ifP_not, Nat.reduceLT, Nat.reduceAdd, Nat.reduceBEq, Nat.reduceSub, Nat.reduceLeDiff, Nat.reduceEqDiff, Nat.reduceMul, Int.reduceToNat, Int.reduceEq, Int.reduceLT, Int.reduceLE, Int.reduceAdd, Int.reduceSub, Int.reduceMul, reduceCtorEq, cond_true, cond_false, forall_eq', forall_eq, forall_const, implies_true, if_true, if_false, exists_eq_left', exists_eq', exists_eq, ne_eq, Try.f161, tb161_62, spAll_q, spAll_A, spAll_pre, spAll_post, spIn_q, spIn_A, spIn_pre, spIn_post]
  repeat' (first | apply And.intro | (intro _) | omega | assumption | with_reducible rfl)
  all_goals (first | (grind [→ takeN, takeA, all_bad]; done))
theorem sat_spec_allIn : Sat Try.prog rt0 161 (wkIn spAll) := sat_in (sat_out sat_spec_allIn_0)
def spVCol_A : Colr → List AV
  | c => [.agg (coC c)]
def spVCol_pre : Colr → Prop
  | c => True
def spVCol_post : Colr → AV → List Box → Prop
  | c, r, bs => r = B (vCol c) ∧ bs = []
def spVCol : VE.Spec := famSpec spVCol_A d_co spVCol_pre spVCol_post 0 true
theorem spVCol_q : spVCol.flat = true ∧ spVCol.mt = [] ∧ spVCol.shut = false ∧ spVCol.cost = 0 ∧ (∀ a i, spVCol.pre a i = (i = [] ∧ famPre d_co spVCol_A spVCol_pre a)) ∧ ∀ a i r b, spVCol.post a i r b = (famPost d_co spVCol_post a r b) := ⟨rfl, rfl, rfl, rfl, fun _ _ => rfl, fun _ _ _ _ => rfl⟩
def tb157 : Nat → Option VE.Spec := tabOf [(65, wkIn spIn)]
theorem tb157_65 : tb157 65 = some (wkIn spIn) := rfl
theorem tb157_ok : TabOK Try.prog rt0 tb157 := (tabOf_cons (by kernel_rfl) sat_impl_in tabOf_nil)
set_option maxHeartbeats 4000000 in
theorem sat_impl_ValidColor_0 : Sat Try.prog rt0 157 (wkOut spVCol) := by
  refine fn_sat hm ttok (tab := tb157) tb157_ok Try.func157 (c := Try.f157.body.getD .skip) (by kernel_rfl) (ts := [.tmp 2]) (by kernel_rfl) Try.ntmps157 (sq := fun _ => true) (by kernel_rfl) ?_
  intro args ins pk hpre0 hpk
  obtain ⟨rfl, hpre0⟩ := hpre0
  obtain ⟨c, rfl, hpre, hdec⟩ := famPre_ex hpre0
  clear hpre0 hdec
  try simp only [spVCol_pre] at hpre
  replace hpk : pk + 0 ≤ pickLimit := hpk
  refine ⟨Nat.le_of_ble_eq_true rfl, ?_⟩
  simp (config := { maxSteps := 1000000 }) only [go_sem, ↓ifP_true, ↓ifP_false, ↓ifP_not, Nat.reduceLT, Nat.reduceAdd, Nat.reduceBEq, Nat.reduceSub, Nat.reduceLeDiff, Nat.reduceEqDiff, Nat.reduceMul, Int.reduceToNat, Int.reduceEq, Int.reduceLT, Int.reduceLE, Int.reduceAdd, Int.reduceSub, Int.reduceMul, reduceCtorEq, cond_true, cond_false, forall_eq', forall_eq, forall_const, implies_true, if_true, if_false, exists_eq_left', exists_eq', exists_eq, ne_eq, Try.f157, tb157_65, spVCol_q, spVCol_A, spVCol_pre, spVCol_post, spIn_q, spIn_A, spIn_pre, spIn_post]
  repeat' (first | apply And.intro | (intro _) | omega | assumption | with_reducible rfl)
  all_goals (first | (simp [vCol, *]; done) | ((simp only [vCol]; grind); done) | (grind [vCol]; done) | (simp_all [vCol]; done))
theorem sat_impl_ValidColor : Sat Try.prog rt0 157 (wkIn spVCol) := sat_in (sat_out sat_impl_ValidColor_0)
def tb159 : Nat → Option VE.Spec := tabOf [(62, wkIn spIn), (161, wkIn spAll)]
theorem tb159_62 : tb159 62 = some (wkIn spIn) := rfl
theorem tb159_161 : tb159 161 = some (wkIn spAll) := rfl
theorem tb159_ok : TabOK Try.prog rt0 tb159 := (tabOf_cons (by kernel_rfl) sat_spec_inRange (tabOf_cons (by kernel_rfl) sat_spec_allIn tabOf_nil))
set_option maxHeartbeats 4000000 in
theorem sat_spec_validColor_0 : Sat Try.prog rt0 159 (wkOut spVCol) := by
  refine fn_sat hm ttok (tab := tb159) tb159_ok Try.func159 (c := Try.f159.body.getD .skip) (by kernel_rfl) (ts := [.tmp 2]) (by kernel_rfl) Try.ntmps159 (sq := fun _ => true) (by kernel_rfl) ?_
  intro args ins pk hpre0 hpk
  obtain ⟨rfl, hpre0⟩ := hpre0
  obtain ⟨c, rfl, hpre, hdec⟩ := famPre_ex hpre0
  clear hpre0 hdec
  try simp only [spVCol_pre] at hpre
  replace hpk : pk + 0 ≤ pickLimit := hpk
  refine ⟨Nat.le_of_ble_eq_true rfl, ?_⟩
  simp (config := { maxSteps := 1000000 }) only [go_sem, ↓ifP_true, ↓ifP_false, ↓ifP_not, Nat.reduceLT, Nat.reduceAdd, Nat.reduceBEq, Nat.reduceSub, Nat.reduceLeDiff, Nat.reduceEqDiff, Nat.reduceMul, Int.reduceToNat, Int.reduceEq, Int.reduceLT, Int.reduceLE, Int.reduceAdd, Int.reduceSub, Int.reduceMul, reduceCtorEq, cond_true, cond_false, forall_eq', forall_eq, forall_const, implies_true, if_true, if_false, exists_eq_left', exists_eq', exists_eq, ne_eq, Try.f159, tb159_62, tb159_161, spVCol_q, spVCol_A, spVCol_pre, spVCol_post, spIn_q, spIn_A, spIn_pre, spIn_post, spAll_q, spAll_A, spAll_pre, spAll_post]
  repeat' (first | apply And.intro | (intro _) | omega | assumption | with_reducible rfl)
  all_goals (first | (simp [vCol, *]; done) | ((simp only [vCol]; grind); done) | (grind [vCol]; done) | (simp_all [vCol]; done))
theorem sat_spec_validColor : Sat Try.prog rt0 159 (wkIn spVCol) := sat_in (sat_out sat_spec_validColor_0)
end Go.Proofs.Ytdkfamajaopgoaa
end
section
set_option maxRecDepth 100000
set_option linter.unusedSimpArgs false
set_option linter.unusedVariables false
namespace Go.Proofs.Ytdkfamajaopgoaa
open Go Go.VE
def spVSt_A : (List Stp) → List AV
  | l => [.c (.sl false (l.map stC))]
def spVSt_pre : (List Stp) → Prop
  | l => l.length ≤ 1000000
def spVSt_post : (List Stp) → AV → List Box → Prop
  | l, r, bs => r = B (vStops l) ∧ bs = []
def spVSt : VE.Spec := famSpec spVSt_A d_lst spVSt_pre spVSt_post 0 true
theorem spVSt_q : spVSt.flat = true ∧ spVSt.mt = [] ∧ spVSt.shut = false ∧ spVSt.cost = 0 ∧ (∀ a i, spVSt.pre a i = (i = [] ∧ famPre d_lst spVSt_A spVSt_pre a)) ∧ ∀ a i r b, spVSt.post a i r b = (famPost d_lst spVSt_post a r b) := ⟨rfl, rfl, rfl, rfl, fun _ _ => rfl, fun _ _ _ _ => rfl⟩
def tb140 : Nat → Option VE.Spec := tabOf [(65, wkIn spIn), (157, wkIn spVCol)]
theorem tb140_65 : tb140 65 = some (wkIn spIn) := rfl
theorem tb140_157 : tb140 157 = some (wkIn spVCol) := rfl
theorem tb140_ok : TabOK Try.prog rt0 tb140 := (tabOf_cons (by kernel_rfl) sat_impl_in (tabOf_cons (by kernel_rfl) sat_impl_ValidColor tabOf_nil))
set_option maxHeartbeats 4000000 in
theorem sat_impl_ValidStops_0 : Sat Try.prog rt0 140 (wkOut spVSt) := by
  refine fn_sat hm ttok (tab := tb140) tb140_ok Try.func140 (c := Try.f140.body.getD .skip) (by kernel_rfl) (ts := [.tmp 2]) (by kernel_rfl) Try.ntmps140 (sq := fun _ => true) (by kernel_rfl) ?_
  intro args ins pk hpre0 hpk
  obtain ⟨rfl, hpre0⟩ := hpre0
  obtain ⟨l, rfl, hpre, hdec⟩ := famPre_ex hpre0
  clear hpre0 hdec
  try simp only [spVSt_pre] at hpre
  replace hpk : pk + 0 ≤ pickLimit := hpk
  refine ⟨Nat.le_of_ble_eq_true rfl, ?_⟩
  simp (config := { maxSteps := 1000000 }) only [go_sem, ↓ifP_true, ↓ifP_false, ↓ifP_not, Nat.reduceLT, Nat.reduceAdd, Nat.reduceBEq, Nat.reduceSub, Nat.reduceLeDiff, Nat.reduceEqDiff, Nat.reduceMul, Int.reduceToNat, Int.reduceEq, Int.reduceLT, Int.reduceLE, Int.reduceAdd, Int.reduceSub, Int.reduceMul, reduceCtorEq, cond_true, cond_false, forall_eq', forall_eq, forall_const, implies_true, if_true, if_false, exists_eq_left', exists_eq', exists_eq, ne_eq, Try.f140, tb140_65, tb140_157, spVSt_q, spVSt_A, spVSt_pre, spVSt_post, spIn_q, spIn_A, spIn_pre, spIn_post, spVCol_q, spVCol_A, spVCol_pre, spVCol_post]
  repeat' (first | apply And.intro | (intro _) | omega | assumption | with_reducible rfl)
  any_goals
    refine loopS (α := Int × Int) false [1, 2, 3, 4, 5, 8, 9, 10, 11, 12, 13, 14, 15, 16, 17, 18, 19, 20, 21, 22, 23, 24, 25, 26] (fun σ => []) (fun σ x => [(3, I x.1), (8, I x.2)]) (fun σ x => []) (fun (p, i) => 0) (fun σ => (gI (σ.get 3), gI (σ.get 8))) (fun σ τ => []) (fun (p, i) => 0 ≤ i ∧ i ≤ l.length ∧ (-1 ≤ p ∧ p ≤ 256) ∧ vStp p (l.drop i.toNat) = vStp (-1) l) (fun (p, i) => (l.length - i).toNat) ⟨by (simp (config := { maxSteps := 1000000 }) only [go_sem, ↓ifP_true, ↓ifP_false, ↓ifP_not, Nat.reduceLT, Nat.reduceAdd, Nat.reduceBEq, Nat.reduceSub, Nat.reduceLeDiff, Nat.reduceEqDiff, Nat.reduceMul, Int.reduceToNat, Int.reduceEq, Int.reduceLT, Int.reduceLE, Int.reduceAdd, Int.reduceSub, Int.reduceMul, reduceCtorEq, cond_true, cond_false, forall_eq', forall_eq, forall_const, implies_true, if_true, if_false, exists_eq_left', exists_eq', exists_eq, ne_eq, Try.f140, tb140_65, tb140_157, spVSt_q, spVSt_A, spVSt_pre, spVSt_post, spIn_q, spIn_A, spIn_pre, spIn_post, spVCol_q, spVCol_A, spVCol_pre, spVCol_post]; (repeat' (first | apply And.intro | (intro _) | omega | assumption | with_reducible rfl)); all_goals (first | rfl)), ?_⟩
    rintro ⟨p, i⟩ hinv
    try dsimp only at hinv
    rcases elemAt l i (by omega) with ⟨hlt, q, hk⟩ | hlt
    all_goals (first | ((have hlt2 := of_eq_true hlt); (have hS := vStp_step (p := p) hinv.1 hk); all_goals simp (config := { maxSteps := 1000000 }) only [go_sem, ↓ifP_true, ↓ifP_false, ↓ifP_not, Nat.reduceLT, Nat.reduceAdd, Nat.reduceBEq, Nat.reduceSub, Nat.reduceLeDiff, Nat.reduceEqDiff, Nat.reduceMul, Int.reduceToNat, Int.reduceEq, Int.reduceLT, Int.reduceLE, Int.reduceAdd, Int.reduceSub, Int.reduceMul, reduceCtorEq, cond_true, cond_false, forall_eq', forall_eq, forall_const, implies_true, if_true, if_false, exists_eq_left', exists_eq', exists_eq, ne_eq, Try.f140, tb140_65, tb140_157, spVSt_q, spVSt_A, spVSt_pre, spVSt_post, spIn_q, spIn_A, spIn_pre, spIn_post, spVCol_q, spVCol_A, spVCol_pre, spVCol_post, hlt, hk]) | (have hlt2 := of_eq_false hlt; simp (config := { maxSteps := 1000000 }) only [go_sem, ↓ifP_true, ↓ifP_false, ↓ifP_not, Nat.reduceLT, Nat.reduceAdd, Nat.reduceBEq, Nat.reduceSub, Nat.reduceLeDiff, Nat.reduceEqDiff, Nat.reduceMul, Int.reduceToNat, Int.reduceEq, Int.reduceLT, Int.reduceLE, Int.reduceAdd, Int.reduceSub, Int.reduceMul, reduceCtorEq, cond_true, cond_false, forall_eq', forall_eq, forall_const, implies_true, if_true, if_false, exists_eq_left', exists_eq', exists_eq, ne_eq, Try.f140, tb140_65, tb140_157, spVSt_q, spVSt_A, spVSt_pre, spVSt_post, spIn_q, spIn_A, spIn_pre, spIn_post, spVCol_q, spVCol_A, spVCol_pre, spVCol_post, hlt]))
    all_goals
      repeat' (first | apply And.intro | (intro _) | omega | assumption | with_reducible rfl)
  
  all_goals (first | ((refine (vStops_bad ?_).symm; rw [← hinv.2.2.2, hS]; simp [*]); done) | ((rw [← hinv.2.2.2, hS]; simp [*]); done) | ((rw [vStops_end (by rw [← hinv.2.2.2, vStp_end (by omega)])]); done) | (grind; done))
theorem sat_impl_ValidStops : Sat Try.prog rt0 140 (wkIn spVSt) := sat_in (sat_out sat_impl_ValidStops_0)
theorem st_bad {l : List Stp} {i : Int} {q : Stp} (h : vStp (lastW l i) (l.drop i.toNat) = vStp (-1) l) (hS : vStp (lastW l i) (l.drop i.toNat) = (decide (lastW l i + 1 ≤ q.w ∧ q.w ≤ 256) && vCol q.c && vStp q.w (l.drop (i + 1).toNat))) (hb : ¬ (lastW l i + 1 ≤ q.w ∧ q.w ≤ 256)) : false = vStops l := by
  refine (vStops_bad ?_).symm
  rw [← h, hS, decide_eq_false hb]; rfl
theorem st_bad2 {l : List Stp} {i : Int} {q : Stp} (h : vStp (lastW l i) (l.drop i.toNat) = vStp (-1) l) (hS : vStp (lastW l i) (l.drop i.toNat) = (decide (lastW l i + 1 ≤ q.w ∧ q.w ≤ 256) && vCol q.c && vStp q.w (l.drop (i + 1).toNat))) (hb : vCol q.c = false) : false = vStops l := by
  refine (vStops_bad ?_).symm
  rw [← h, hS, hb, Bool.and_false]; rfl
theorem st_next {l : List Stp} {i : Int} {q : Stp} (h : vStp (lastW l i) (l.drop i.toNat) = vStp (-1) l) (hS : vStp (lastW l i) (l.drop i.toNat) = (decide (lastW l i + 1 ≤ q.w ∧ q.w ≤ 256) && vCol q.c && vStp q.w (l.drop (i + 1).toNat))) (hN : lastW l (i + 1) = q.w) (hb : vCol q.c = true) (hw : lastW l i + 1 ≤ q.w ∧ q.w ≤ 256) : vStp (lastW l (i + 1)) (l.drop (i + 1).toNat) = vStp (-1) l := by
  rw [← h, hS, hN, hb, decide_eq_true hw]; rfl
def tb148 : Nat → Option VE.Spec := tabOf [(62, wkIn spIn), (159, wkIn spVCol)]
theorem tb148_62 : tb148 62 = some (wkIn spIn) := rfl
theorem tb148_159 : tb148 159 = some (wkIn spVCol) := rfl
theorem tb148_ok : TabOK Try.prog rt0 tb148 := (tabOf_cons (by kernel_rfl) sat_spec_inRange (tabOf_cons (by kernel_rfl) sat_spec_validColor tabOf_nil))
set_option maxHeartbeats 4000000 in
theorem sat_spec_validStops_0 : Sat Try.prog rt0 148 (wkOut spVSt) := by
  refine fn_sat hm ttok (tab := tb148) tb148_ok Try.func148 (c := Try.f148.body.getD .skip) (by kernel_rfl) (ts := [.tmp 2]) (by kernel_rfl) Try.ntmps148 (sq := fun _ => true) (by kernel_rfl) ?_
  intro args ins pk hpre0 hpk
  obtain ⟨rfl, hpre0⟩ := hpre0
  obtain ⟨l, rfl, hpre, hdec⟩ := famPre_ex hpre0
  clear hpre0 hdec
  try simp only [spVSt_pre] at hpre
  replace hpk : pk + 0 ≤ pickLimit := hpk
  refine ⟨Nat.le_of_ble_eq_true rfl, ?_⟩
  simp (config := { maxSteps := 1000000 }) only [go_sem, ↓ifP_true, ↓ifP_false, ↓ifP_not, Nat.reduceLT, Nat.reduceAdd, Nat.reduceBEq, Nat.reduceSub, Nat.reduceLeDiff, Nat.reduceEqDiff, Nat.reduceMul, Int.reduceToNat, Int.reduceEq, Int.reduceLT, Int.reduceLE, Int.reduceAdd, Int.reduceSub, Int.reduceMul, reduceCtorEq, cond_true, cond_false, forall_eq', forall_eq, forall_const, implies_true, if_true, if_false, exists_eq_left', exists_eq', exists_eq, ne_eq, Try.f148, tb148_62, tb148_159, spVSt_q, spVSt_A, spVSt_pre, spVSt_post, spIn_q, spIn_A, spIn_pre, spIn_post, spVCol_q, spVCol_A, spVCol_pre, spVCol_post]
  repeat' (first | apply And.intro | (intro _) | omega | assumption | with_reducible rfl)
  refine loopS (α := Int) false [1, 2, 3, 4, 5, 6, 7, 8, 9, 10, 11, 12, 13, 14, 15, 16, 17, 18, 19, 20, 21, 22, 23, 24, 25, 26, 27, 28, 29, 30, 31, 32, 33, 34, 35, 36, 37, 38, 39, 40, 41, 42, 43] (fun σ => []) (fun σ x => [(3, I x)]) (fun σ x => []) (fun i => 0) (fun σ => gI (σ.get 3)) (fun σ τ => []) (fun i => 0 ≤ i ∧ i ≤ l.length ∧ -1 ≤ lastW l i ∧ vStp (lastW l i) (l.drop i.toNat) = vStp (-1) l) (fun i => (l.length - i).toNat) ⟨by (simp (config := { maxSteps := 1000000 }) only [go_sem, ↓ifP_true, ↓ifP_false, ↓ifP_not, Nat.reduceLT, Nat.reduceAdd, Nat.reduceBEq, Nat.reduceSub, Nat.reduceLeDiff, Nat.reduceEqDiff, Nat.reduceMul, Int.reduceToNat, Int.reduceEq, Int.reduceLT, Int.reduceLE, Int.reduceAdd, Int.reduceSub, Int.reduceMul, reduceCtorEq, cond_true, cond_false, forall_eq', forall_eq, forall_const, implies_true, if_true, if_false, exists_eq_left', exists_eq', exists_eq, ne_eq, Try.f148, tb148_62, tb148_159, spVSt_q, spVSt_A, spVSt_pre, spVSt_post, spIn_q, spIn_A, spIn_pre, spIn_post, spVCol_q, spVCol_A, spVCol_pre, spVCol_post]; (repeat' (first | apply And.intro | (intro _) | omega | assumption | with_reducible rfl)); all_goals (first | rfl | (simp [lastW]))), ?_⟩
  rintro i hinv
  try dsimp only at hinv
  rcases elemAt l i (by omega) with ⟨hlt, q, hk⟩ | hlt
  all_goals (first | ((have hlt2 := of_eq_true hlt); (have hS := vStp_step (p := lastW l i) hinv.1 hk); (have hN := lastW_next hinv.1 hk); (have h00 : i = 0 → lastW l i = -1 := fun h => by rw [h]; rfl); all_goals simp (config := { maxSteps := 1000000 }) only [go_sem, ↓ifP_true, ↓ifP_false, ↓ifP_not, Nat.reduceLT, Nat.reduceAdd, Nat.reduceBEq, Nat.reduceSub, Nat.reduceLeDiff, Nat.reduceEqDiff, Nat.reduceMul, Int.reduceToNat, Int.reduceEq, Int.reduceLT, Int.reduceLE, Int.reduceAdd, Int.reduceSub, Int.reduceMul, reduceCtorEq, cond_true, cond_false, forall_eq', forall_eq, forall_const, implies_true, if_true, if_false, exists_eq_left', exists_eq', exists_eq, ne_eq, Try.f148, tb148_62, tb148_159, spVSt_q, spVSt_A, spVSt_pre, spVSt_post, spIn_q, spIn_A, spIn_pre, spIn_post, spVCol_q, spVCol_A, spVCol_pre, spVCol_post, hlt, hk]) | (have hlt2 := of_eq_false hlt; simp (config := { maxSteps := 1000000 }) only [go_sem, ↓ifP_true, ↓ifP_false, ↓ifP_not, Nat.reduceLT, Nat.reduceAdd, Nat.reduceBEq, Nat.reduceSub, Nat.reduceLeDiff, Nat.reduceEqDiff, Nat.reduceMul, Int.reduceToNat, Int.reduceEq, Int.reduceLT, Int.reduceLE, Int.reduceAdd, Int.reduceSub, Int.reduceMul, reduceCtorEq, cond_true, cond_false, forall_eq', forall_eq, forall_const, implies_true, if_true, if_false, exists_eq_left', exists_eq', exists_eq, ne_eq, Try.f148, tb148_62, tb148_159, spVSt_q, spVSt_A, spVSt_pre, spVSt_post, spIn_q, spIn_A, spIn_pre, spIn_post, spVCol_q, spVCol_A, spVCol_pre, spVCol_post, hlt]))
  all_goals
    repeat' (first | apply And.intro | (intro _) | omega | assumption | with_reducible rfl)
  all_goals (first | ((have e := lastW_prev (l := l) (i := i) (by omega) ‹l[(i - 1).toNat]? = some _›; refine st_bad hinv.2.2.2 hS ?_; omega); done) | ((have e := lastW_prev (l := l) (i := i) (by omega) ‹l[(i - 1).toNat]? = some _›; refine st_next hinv.2.2.2 hS hN ‹vCol q.c = true› ?_; omega); done) | ((have e := h00 (by omega); refine st_next hinv.2.2.2 hS hN ‹vCol q.c = true› ?_; omega); done) | (exact st_bad2 hinv.2.2.2 hS ‹_›; done) | ((refine st_bad hinv.2.2.2 hS ?_; omega); done) | (exact (vStops_end ((vStp_end hlt2).symm.trans hinv.2.2.2)).symm; done))
theorem sat_spec_validStops : Sat Try.prog rt0 148 (wkIn spVSt) := sat_in (sat_out sat_spec_validStops_0)
end Go.Proofs.Ytdkfamajaopgoaa
end
section
set_option maxRecDepth 100000
set_option linter.unusedSimpArgs false
set_option linter.unusedVariables false
namespace Go.Proofs.Ytdkfamajaopgoaa
open Go Go.VE
def spVPnt_A : Pnt → List AV
  | p => [.agg (pnC p)]
def spVPnt_pre : Pnt → Prop
  | p => p.ss.length ≤ 1000000
def spVPnt_post : Pnt → AV → List Box → Prop
  | p, r, bs => r = B (vPnt p) ∧ bs = []
def spVPnt : VE.Spec := famSpec spVPnt_A d_pn spVPnt_pre spVPnt_post 0 true
theorem spVPnt_q : spVPnt.flat = true ∧ spVPnt.mt = [] ∧ spVPnt.shut = false ∧ spVPnt.cost = 0 ∧ (∀ a i, spVPnt.pre a i = (i = [] ∧ famPre d_pn spVPnt_A spVPnt_pre a)) ∧ ∀ a i r b, spVPnt.post a i r b = (famPost d_pn spVPnt_post a r b) := ⟨rfl, rfl, rfl, rfl, fun _ _ => rfl, fun _ _ _ _ => rfl⟩
def tb116 : Nat → Option VE.Spec := tabOf [(140, wkIn spVSt), (94, wkIn spVPt)]
theorem tb116_140 : tb116 140 = some (wkIn spVSt) := rfl
theorem tb116_94 : tb116 94 = some (wkIn spVPt) := rfl
theorem tb116_ok : TabOK Try.prog rt0 tb116 := (tabOf_cons (by kernel_rfl) sat_impl_ValidStops (tabOf_cons (by kernel_rfl) sat_impl_Point_valid tabOf_nil))
set_option maxHeartbeats 4000000 in
theorem sat_impl_Paint_valid_0 : Sat Try.prog rt0 116 (wkOut spVPnt) := by
  refine fn_sat hm ttok (tab := tb116) tb116_ok Try.func116 (c := Try.f116.body.getD .skip) (by kernel_rfl) (ts := [.tmp 2]) (by kernel_rfl) Try.ntmps116 (sq := fun _ => true) (by kernel_rfl) ?_
  intro args ins pk hpre0 hpk
  obtain ⟨rfl, hpre0⟩ := hpre0
  obtain ⟨p, rfl, hpre, hdec⟩ := famPre_ex hpre0
  clear hpre0 hdec
  try simp only [spVPnt_pre] at hpre
  replace hpk : pk + 0 ≤ pickLimit := hpk
  refine ⟨Nat.le_of_ble_eq_true rfl, ?_⟩
  simp (config := { maxSteps := 1000000 }) only [go_sem, ↓ifP_true, ↓ifP_false, ↓ifP_not, Nat.reduceLT, Nat.reduceAdd, Nat.reduceBEq, Nat.reduceSub, Nat.reduceLeDiff, Nat.reduceEqDiff, Nat.reduceMul, Int.reduceToNat, Int.reduceEq, Int.reduceLT, Int.reduceLE, Int.reduceAdd, Int.reduceSub, Int.reduceMul, reduceCtorEq, cond_true, cond_false, forall_eq', forall_eq, forall_const, implies_true, if_true, if_false, exists_eq_left', exists_eq', exists_eq, ne_eq, Try.f116, tb116_140, tb116_94, spVPnt_q, spVPnt_A, spVPnt_pre, spVPnt_post, spVSt_q, spVSt_A, spVSt_pre, spVSt_post, spVPt_q, spVPt_A, spVPt_pre, spVPt_post]
  repeat' (first | apply And.intro | (intro _) | omega | assumption | with_reducible rfl)
  all_goals (first | (simp [vPnt, *]; done) | (simp_all [vPnt]; done) | (grind [vPnt]; done))
theorem sat_impl_Paint_valid : Sat Try.prog rt0 116 (wkIn spVPnt) := sat_in (sat_out sat_impl_Paint_valid_0)
def tb123 : Nat → Option VE.Spec := tabOf [(148, wkIn spVSt), (97, wkIn spVPt)]
theorem tb123_148 : tb123 148 = some (wkIn spVSt) := rfl
theorem tb123_97 : tb123 97 = some (wkIn spVPt) := rfl
theorem tb123_ok : TabOK Try.prog rt0 tb123 := (tabOf_cons (by kernel_rfl) sat_spec_validStops (tabOf_cons (by kernel_rfl) sat_spec_validPoint tabOf_nil))
set_option maxHeartbeats 4000000 in
theorem sat_spec_validPaint_0 : Sat Try.prog rt0 123 (wkOut spVPnt) := by
  refine fn_sat hm ttok (tab := tb123) tb123_ok Try.func123 (c := Try.f123.body.getD .skip) (by kernel_rfl) (ts := [.tmp 2]) (by kernel_rfl) Try.ntmps123 (sq := fun _ => true) (by kernel_rfl) ?_
  intro args ins pk hpre0 hpk
  obtain ⟨rfl, hpre0⟩ := hpre0
  obtain ⟨p, rfl, hpre, hdec⟩ := famPre_ex hpre0
  clear hpre0 hdec
  try simp only [spVPnt_pre] at hpre
  replace hpk : pk + 0 ≤ pickLimit := hpk
  refine ⟨Nat.le_of_ble_eq_true rfl, ?_⟩
  simp (config := { maxSteps := 1000000 }) only [go_sem, ↓ifP_true, ↓ifP_false, ↓ifP_not, Nat.reduceLT, Nat.reduceAdd, Nat.reduceBEq, Nat.reduceSub, Nat.reduceLeDiff, Nat.reduceEqDiff, Nat.reduceMul, Int.reduceToNat, Int.reduceEq, Int.reduceLT, Int.reduceLE, Int.reduceAdd, Int.reduceSub, Int.reduceMul, reduceCtorEq, cond_true, cond_false, forall_eq', forall_eq, forall_const, implies_true, if_true, if_false, exists_eq_left', exists_eq', exists_eq, ne_eq, Try.f123, tb123_148, tb123_97, spVPnt_q, spVPnt_A, spVPnt_pre, spVPnt_post, spVSt_q, spVSt_A, spVSt_pre, spVSt_post, spVPt_q, spVPt_A, spVPt_pre, spVPt_post]
  repeat' (first | apply And.intro | (intro _) | omega | assumption | with_reducible rfl)
  all_goals (first | (simp [vPnt, *]; done) | (simp_all [vPnt]; done) | (grind [vPnt]; done))
theorem sat_spec_validPaint : Sat Try.prog rt0 123 (wkIn spVPnt) := sat_in (sat_out sat_spec_validPaint_0)
def spVFil_A : Fil → List AV
  | f => [.agg (flC f)]
def spVFil_pre : Fil → Prop
  | f => okF f
def spVFil_post : Fil → AV → List Box → Prop
  | f, r, bs => r = B (vFil f) ∧ bs = []
def spVFil : VE.Spec := famSpec spVFil_A d_fl spVFil_pre spVFil_post 0 true
theorem spVFil_q : spVFil.flat = true ∧ spVFil.mt = [] ∧ spVFil.shut = false ∧ spVFil.cost = 0 ∧ (∀ a i, spVFil.pre a i = (i = [] ∧ famPre d_fl spVFil_A spVFil_pre a)) ∧ ∀ a i r b, spVFil.post a i r b = (famPost d_fl spVFil_post a r b) := ⟨rfl, rfl, rfl, rfl, fun _ _ => rfl, fun _ _ _ _ => rfl⟩
def tb71 : Nat → Option VE.Spec := tabOf [(47, wkIn spVPath), (48, wkIn spRings), (57, wkIn spVRings), (58, wkIn spRl), (116, wkIn spVPnt)]
theorem tb71_47 : tb71 47 = some (wkIn spVPath) := rfl
theorem tb71_48 : tb71 48 = some (wkIn spRings) := rfl
theorem tb71_57 : tb71 57 = some (wkIn spVRings) := rfl
theorem tb71_58 : tb71 58 = some (wkIn spRl) := rfl
theorem tb71_116 : tb71 116 = some (wkIn spVPnt) := rfl
theorem tb71_ok : TabOK Try.prog rt0 tb71 := (tabOf_cons (by kernel_rfl) sat_impl_ValidPath (tabOf_cons (by kernel_rfl) sat_impl_rings (tabOf_cons (by kernel_rfl) sat_impl_ValidRings (tabOf_cons (by kernel_rfl) sat_impl_isRule (tabOf_cons (by kernel_rfl) sat_impl_Paint_valid tabOf_nil)))))
set_option maxHeartbeats 4000000 in
theorem sat_impl_Fill_valid_0 : Sat Try.prog rt0 71 (wkOut spVFil) := by
  refine fn_sat hm ttok (tab := tb71) tb71_ok Try.func71 (c := Try.f71.body.getD .skip) (by kernel_rfl) (ts := [.tmp 2]) (by kernel_rfl) Try.ntmps71 (sq := fun _ => true) (by kernel_rfl) ?_
  intro args ins pk hpre0 hpk
  obtain ⟨rfl, hpre0⟩ := hpre0
  obtain ⟨f, rfl, hpre, hdec⟩ := famPre_ex hpre0
  clear hpre0 hdec
  try simp only [spVFil_pre] at hpre
  replace hpk : pk + 0 ≤ pickLimit := hpk
  refine ⟨Nat.le_of_ble_eq_true rfl, ?_⟩
  simp (config := { maxSteps := 1000000 }) only [go_sem, ↓ifP_true, ↓ifP_false, ↓ifP_not, Nat.reduceLT, Nat.reduceAdd, Nat.reduceBEq, Nat.reduceSub, Nat.reduceLeDiff, Nat.reduceEqDiff, Nat.reduceMul, Int.reduceToNat, Int.reduceEq, Int.reduceLT, Int.reduceLE, Int.reduceAdd, Int.reduceSub, Int.reduceMul, reduceCtorEq, cond_true, cond_false, forall_eq', forall_eq, forall_const, implies_true, if_true, if_false, exists_eq_left', exists_eq', exists_eq, ne_eq, Try.f71, tb71_47, tb71_48, tb71_57, tb71_58, tb71_116, spVFil_q, spVFil_A, spVFil_pre, spVFil_post, spVPath_q, spVPath_A, spVPath_pre, spVPath_post, spRings_q, spRings_A, spRings_pre, spRings_post, spVRings_q, spVRings_A, spVRings_pre, spVRings_post, spRl_q, spRl_A, spRl_pre, spRl_post, spVPnt_q, spVPnt_A, spVPnt_pre, spVPnt_post]
  repeat' (first | apply And.intro | (intro _) | omega | assumption | with_reducible rfl)
  all_goals (first | ((have h1 := hpre.p; have h2 := hpre.n; have h3 := hpre.s; omega); done) | (exact (rings_tot2 ‹vPath f.p = true›).1; done) | (exact (rings_tot2 ‹vPath f.p = true›).2; done) | (simp [vFil, *]; done) | ((simp only [vFil, *]; simp); done) | ((simp only [vFil, isRl, *]; simp; omega); done) | (simp_all [vFil]; done) | (grind [vFil, isRl]; done))
theorem sat_impl_Fill_valid : Sat Try.prog rt0 71 (wkIn spVFil) := sat_in (sat_out sat_impl_Fill_valid_0)
def tb89 : Nat → Option VE.Spec := tabOf [(51, wkIn spVPath), (52, wkIn spRings), (61, wkIn spVRings), (62, wkIn spIn), (123, wkIn spVPnt)]
theorem tb89_51 : tb89 51 = some (wkIn spVPath) := rfl
theorem tb89_52 : tb89 52 = some (wkIn spRings) := rfl
theorem tb89_61 : tb89 61 = some (wkIn spVRings) := rfl
theorem tb89_62 : tb89 62 = some (wkIn spIn) := rfl
theorem tb89_123 : tb89 123 = some (wkIn spVPnt) := rfl
theorem tb89_ok : TabOK Try.prog rt0 tb89 := (tabOf_cons (by kernel_rfl) sat_spec_validPath (tabOf_cons (by kernel_rfl) sat_spec_rings (tabOf_cons (by kernel_rfl) sat_spec_validRings (tabOf_cons (by kernel_rfl) sat_spec_inRange (tabOf_cons (by kernel_rfl) sat_spec_validPaint tabOf_nil)))))
set_option maxHeartbeats 4000000 in
theorem sat_spec_validFill_0 : Sat Try.prog rt0 89 (wkOut spVFil) := by
  refine fn_sat hm ttok (tab := tb89) tb89_ok Try.func89 (c := Try.f89.body.getD .skip) (by kernel_rfl) (ts := [.tmp 2]) (by kernel_rfl) Try.ntmps89 (sq := fun _ => true) (by kernel_rfl) ?_
  intro args ins pk hpre0 hpk
  obtain ⟨rfl, hpre0⟩ := hpre0
  obtain ⟨f, rfl, hpre, hdec⟩ := famPre_ex hpre0
  clear hpre0 hdec
  try simp only [spVFil_pre] at hpre
  replace hpk : pk + 0 ≤ pickLimit := hpk
  refine ⟨Nat.le_of_ble_eq_true rfl, ?_⟩
  simp (config := { maxSteps := 1000000 }) only [go_sem, ↓ifP_true, ↓ifP_false, ↓ifP_not, Nat.reduceLT, Nat.reduceAdd, Nat.reduceBEq, Nat.reduceSub, Nat.reduceLeDiff, Nat.reduceEqDiff, Nat.reduceMul, Int.reduceToNat, Int.reduceEq, Int.reduceLT, Int.reduceLE, Int.reduceAdd, Int.reduceSub, Int.reduceMul, reduceCtorEq, cond_true, cond_false, forall_eq', forall_eq, forall_const, implies_true, if_true, if_false, exists_eq_left', exists_eq', exists_eq, ne_eq, Try.f89, tb89_51, tb89_52, tb89_61, tb89_62, tb89_123, spVFil_q, spVFil_A, spVFil_pre, spVFil_post, spVPath_q, spVPath_A, spVPath_pre, spVPath_post, spRings_q, spRings_A, spRings_pre, spRings_post, spVRings_q, spVRings_A, spVRings_pre, spVRings_post, spIn_q, spIn_A, spIn_pre, spIn_post, spVPnt_q, spVPnt_A, spVPnt_pre, spVPnt_post]
  repeat' (first | apply And.intro | (intro _) | omega | assumption | with_reducible rfl)
  all_goals (first | ((have h1 := hpre.p; have h2 := hpre.n; have h3 := hpre.s; omega); done) | (exact (rings_tot2 ‹vPath f.p = true›).1; done) | (exact (rings_tot2 ‹vPath f.p = true›).2; done) | (simp [vFil, *]; done) | ((simp only [vFil, *]; simp); done) | ((simp only [vFil, isRl, *]; simp; omega); done) | (simp_all [vFil]; done) | (grind [vFil, isRl]; done))
theorem sat_spec_validFill : Sat Try.prog rt0 89 (wkIn spVFil) := sat_in (sat_out sat_spec_validFill_0)
def spNVFil_A : Fil → List AV
  | f => [.agg (flC f)]
def spNVFil_pre : Fil → Prop
  | f => okF f
def spNVFil_post : Fil → AV → List Box → Prop
  | f, r, bs => r = B (!vFil f) ∧ bs = []
def spNVFil : VE.Spec := famSpec spNVFil_A d_fl spNVFil_pre spNVFil_post 0 true
theorem spNVFil_q : spNVFil.flat = true ∧ spNVFil.mt = [] ∧ spNVFil.shut = false ∧ spNVFil.cost = 0 ∧ (∀ a i, spNVFil.pre a i = (i = [] ∧ famPre d_fl spNVFil_A spNVFil_pre a)) ∧ ∀ a i r b, spNVFil.post a i r b = (famPost d_fl spNVFil_post a r b) := ⟨rfl, rfl, rfl, rfl, fun _ _ => rfl, fun _ _ _ _ => rfl⟩
def tb70 : Nat → Option VE.Spec := tabOf [(71, wkIn spVFil)]
theorem tb70_71 : tb70 71 = some (wkIn spVFil) := rfl
theorem tb70_ok : TabOK Try.prog rt0 tb70 := (tabOf_cons (by kernel_rfl) sat_impl_Fill_valid tabOf_nil)
set_option maxHeartbeats 4000000 in
theorem sat_impl_ValidScene_1_0 : Sat Try.prog rt0 70 (wkOut spNVFil) := by
  refine fn_sat hm ttok (tab := tb70) tb70_ok Try.func70 (c := Try.f70.body.getD .skip) (by kernel_rfl) (ts := [.tmp 2]) (by kernel_rfl) Try.ntmps70 (sq := fun _ => true) (by kernel_rfl) ?_
  intro args ins pk hpre0 hpk
  obtain ⟨rfl, hpre0⟩ := hpre0
  obtain ⟨f, rfl, hpre, hdec⟩ := famPre_ex hpre0
  clear hpre0 hdec
  try simp only [spNVFil_pre] at hpre
  replace hpk : pk + 0 ≤ pickLimit := hpk
  refine ⟨Nat.le_of_ble_eq_true rfl, ?_⟩
  simp (config := { maxSteps := 1000000 }) only [go_sem, ↓ifP_true, ↓ifP_false, ↓ifP_not, Nat.reduceLT, Nat.reduceAdd, Nat.reduceBEq, Nat.reduceSub, Nat.reduceLeDiff, Nat.reduceEqDiff, Nat.reduceMul, Int.reduceToNat, Int.reduceEq, Int.reduceLT, Int.reduceLE, Int.reduceAdd, Int.reduceSub, Int.reduceMul, reduceCtorEq, cond_true, cond_false, forall_eq', forall_eq, forall_const, implies_true, if_true, if_false, exists_eq_left', exists_eq', exists_eq, ne_eq, Try.f70, tb70_71, spNVFil_q, spNVFil_A, spNVFil_pre, spNVFil_post, spVFil_q, spVFil_A, spVFil_pre, spVFil_post]
  repeat' (first | apply And.intro | (intro _) | omega | assumption | with_reducible rfl)
theorem sat_impl_ValidScene_1 : Sat Try.prog rt0 70 (wkIn spNVFil) := sat_in (sat_out sat_impl_ValidScene_1_0)
end Go.Proofs.Ytdkfamajaopgoaa
end
section
set_option maxRecDepth 100000
set_option linter.unusedSimpArgs false
set_option linter.unusedVariables false
namespace Go.Proofs.Ytdkfamajaopgoaa
open Go Go.VE
def spIdxF_A : (List Fil) → List AV
  | l => [.c (.sl false (l.map flC)), .c (.fn 70 [])]
def spIdxF_pre : (List Fil) → Prop
  | l => okFs l
def spIdxF_post : (List Fil) → AV → List Box → Prop
  | l, r, bs => ∃ m, r = I m ∧ bs = [] ∧ decide (0 ≤ m) = (!l.all vFil)
def spIdxF : VE.Spec := famSpec spIdxF_A d_lfl_f70 spIdxF_pre spIdxF_post 0 true
theorem spIdxF_q : spIdxF.flat = true ∧ spIdxF.mt = [] ∧ spIdxF.shut = false ∧ spIdxF.cost = 0 ∧ (∀ a i, spIdxF.pre a i = (i = [] ∧ famPre d_lfl_f70 spIdxF_A spIdxF_pre a)) ∧ ∀ a i r b, spIdxF.post a i r b = (famPost d_lfl_f70 spIdxF_post a r b) := ⟨rfl, rfl, rfl, rfl, fun _ _ => rfl, fun _ _ _ _ => rfl⟩
def tb115 : Nat → Option VE.Spec := tabOf [(70, wkIn spNVFil)]
theorem tb115_70 : tb115 70 = some (wkIn spNVFil) := rfl
theorem tb115_ok : TabOK Try.prog rt0 tb115 := (tabOf_cons (by kernel_rfl) sat_impl_ValidScene_1 tabOf_nil)
set_option maxHeartbeats 4000000 in
theorem sat_slices_IndexFunc_impl_Fill_impl_Fill_0 : Sat Try.prog rt0 115 (wkOut spIdxF) := by
  refine fn_sat hm ttok (tab := tb115) tb115_ok Try.func115 (c := Try.f115.body.getD .skip) (by kernel_rfl) (ts := [.tmp 4]) (by kernel_rfl) Try.ntmps115 (sq := fun _ => true) (by kernel_rfl) ?_
  intro args ins pk hpre0 hpk
  obtain ⟨rfl, hpre0⟩ := hpre0
  obtain ⟨l, rfl, hpre, hdec⟩ := famPre_ex hpre0
  clear hpre0 hdec
  try simp only [spIdxF_pre] at hpre
  replace hpk : pk + 0 ≤ pickLimit := hpk
  refine ⟨Nat.le_of_ble_eq_true rfl, ?_⟩
  simp (config := { maxSteps := 1000000 }) only [go_sem, ↓ifP_true, ↓ifP_false, ↓ifP_not, Nat.reduceLT, Nat.reduceAdd, Nat.reduceBEq, Nat.reduceSub, Nat.reduceLeDiff, Nat.reduceEqDiff, Nat.reduceMul, Int.reduceToNat, Int.reduceEq, Int.reduceLT, Int.reduceLE, Int.reduceAdd, Int.reduceSub, Int.reduceMul, reduceCtorEq, cond_true, cond_false, forall_eq', forall_eq, forall_const, implies_true, if_true, if_false, exists_eq_left', exists_eq', exists_eq, ne_eq, Try.f115, tb115_70, spIdxF_q, spIdxF_A, spIdxF_pre, spIdxF_post, spNVFil_q, spNVFil_A, spNVFil_pre, spNVFil_post]
  repeat' (first | apply And.intro | (intro _) | omega | assumption | with_reducible rfl)
  refine loopS (α := Int) false [2, 3, 4, 5, 6, 8, 9, 10, 11, 12, 13, 14, 15, 16, 17, 18] (fun σ => []) (fun σ x => [(8, I x)]) (fun σ x => []) (fun i => 0) (fun σ => gI (σ.get 8)) (fun σ τ => []) (fun i => 0 ≤ i ∧ i ≤ l.length ∧ (l.take i.toNat).all vFil = true) (fun i => (l.length - i).toNat) ⟨by (simp (config := { maxSteps := 1000000 }) only [go_sem, ↓ifP_true, ↓ifP_false, ↓ifP_not, Nat.reduceLT, Nat.reduceAdd, Nat.reduceBEq, Nat.reduceSub, Nat.reduceLeDiff, Nat.reduceEqDiff, Nat.reduceMul, Int.reduceToNat, Int.reduceEq, Int.reduceLT, Int.reduceLE, Int.reduceAdd, Int.reduceSub, Int.reduceMul, reduceCtorEq, cond_true, cond_false, forall_eq', forall_eq, forall_const, implies_true, if_true, if_false, exists_eq_left', exists_eq', exists_eq, ne_eq, Try.f115, tb115_70, spIdxF_q, spIdxF_A, spIdxF_pre, spIdxF_post, spNVFil_q, spNVFil_A, spNVFil_pre, spNVFil_post]; (repeat' (first | apply And.intro | (intro hh; first | (have h9 := okFs_at hpre hh) | skip) | omega | assumption | with_reducible rfl))), ?_⟩
  rintro i hinv
  try dsimp only at hinv
  simp (config := { maxSteps := 1000000 }) only [go_sem, ↓ifP_true, ↓ifP_false, ↓ifP_not, Nat.reduceLT, Nat.reduceAdd, Nat.reduceBEq, Nat.reduceSub, Nat.reduceLeDiff, Nat.reduceEqDiff, Nat.reduceMul, Int.reduceToNat, Int.reduceEq, Int.reduceLT, Int.reduceLE, Int.reduceAdd, Int.reduceSub, Int.reduceMul, reduceCtorEq, cond_true, cond_false, forall_eq', forall_eq, forall_const, implies_true, if_true, if_false, exists_eq_left', exists_eq', exists_eq, ne_eq, Try.f115, tb115_70, spIdxF_q, spIdxF_A, spIdxF_pre, spIdxF_post, spNVFil_q, spNVFil_A, spNVFil_pre, spNVFil_post]
  have hpl := hpre.len
  repeat' (first | apply And.intro | (intro hh; first | (have h9 := okFs_at hpre hh) | skip) | omega | assumption | with_reducible rfl)
  all_goals (first | (exact okFs_at hpre ‹_›; done) | (grind [→ takeN, takeA, all_bad]; done))
theorem sat_slices_IndexFunc_impl_Fill_impl_Fill : Sat Try.prog rt0 115 (wkIn spIdxF) := sat_in (sat_out sat_slices_IndexFunc_impl_Fill_impl_Fill_0)
def spHasF_A : (List Fil) → List AV
  | l => [.c (.sl false (l.map flC)), .c (.fn 70 [])]
def spHasF_pre : (List Fil) → Prop
  | l => okFs l
def spHasF_post : (List Fil) → AV → List Box → Prop
  | l, r, bs => r = B (!l.all vFil) ∧ bs = []
def spHasF : VE.Spec := famSpec spHasF_A d_lfl_f70 spHasF_pre spHasF_post 0 true
theorem spHasF_q : spHasF.flat = true ∧ spHasF.mt = [] ∧ spHasF.shut = false ∧ spHasF.cost = 0 ∧ (∀ a i, spHasF.pre a i = (i = [] ∧ famPre d_lfl_f70 spHasF_A spHasF_pre a)) ∧ ∀ a i r b, spHasF.post a i r b = (famPost d_lfl_f70 spHasF_post a r b) := ⟨rfl, rfl, rfl, rfl, fun _ _ => rfl, fun _ _ _ _ => rfl⟩
def tb69 : Nat → Option VE.Spec := tabOf [(115, wkIn spIdxF)]
theorem tb69_115 : tb69 115 = some (wkIn spIdxF) := rfl
theorem tb69_ok : TabOK Try.prog rt0 tb69 := (tabOf_cons (by kernel_rfl) sat_slices_IndexFunc_impl_Fill_impl_Fill tabOf_nil)
set_option maxHeartbeats 4000000 in
theorem sat_slices_ContainsFunc_impl_Fill_impl_Fill_0 : Sat Try.prog rt0 69 (wkOut spHasF) := by
  refine fn_sat hm ttok (tab := tb69) tb69_ok Try.func69 (c := Try.f69.body.getD .skip) (by kernel_rfl) (ts := [.tmp 4]) (by kernel_rfl) Try.ntmps69 (sq := fun _ => true) (by kernel_rfl) ?_
  intro args ins pk hpre0 hpk
  obtain ⟨rfl, hpre0⟩ := hpre0
  obtain ⟨l, rfl, hpre, hdec⟩ := famPre_ex hpre0
  clear hpre0 hdec
  try simp only [spHasF_pre] at hpre
  replace hpk : pk + 0 ≤ pickLimit := hpk
  refine ⟨Nat.le_of_ble_eq_true rfl, ?_⟩
  simp (config := { maxSteps := 1000000 }) only [go_sem, ↓ifP_true, ↓ifP_false, ↓ifP_not, Nat.reduceLT, Nat.reduceAdd, Nat.reduceBEq, Nat.reduceSub, Nat.reduceLeDiff, Nat.reduceEqDiff, Nat.reduceMul, Int.reduceToNat, Int.reduceEq, Int.reduceLT, Int.reduceLE, Int.reduceAdd, Int.reduceSub, Int.reduceMul, reduceCtorEq, cond_true, cond_false, forall_eq', forall_eq, forall_const, implies_true, if_true, if_false, exists_eq_left', exists_eq', exists_eq, ne_eq, Try.f69, tb69_115, spHasF_q, spHasF_A, spHasF_pre, spHasF_post, spIdxF_q, spIdxF_A, spIdxF_pre, spIdxF_post]
  repeat' (first | apply And.intro | (intro _) | omega | assumption | with_reducible rfl)
  all_goals (first | (grind; done))
theorem sat_slices_ContainsFunc_impl_Fill_impl_Fill : Sat Try.prog rt0 69 (wkIn spHasF) := sat_in (sat_out sat_slices_ContainsFunc_impl_Fill_impl_Fill_0)
def spVScn_A : Scn → List AV
  | s => [.agg (scC s)]
def spVScn_pre : Scn → Prop
  | s => okFs s.fs
def spVScn_post : Scn → AV → List Box → Prop
  | s, r, bs => r = B (vScn s) ∧ bs = []
def spVScn : VE.Spec := famSpec spVScn_A d_sc spVScn_pre spVScn_post 0 true
theorem spVScn_q : spVScn.flat = true ∧ spVScn.mt = [] ∧ spVScn.shut = false ∧ spVScn.cost = 0 ∧ (∀ a i, spVScn.pre a i = (i = [] ∧ famPre d_sc spVScn_A spVScn_pre a)) ∧ ∀ a i r b, spVScn.post a i r b = (famPost d_sc spVScn_post a r b) := ⟨rfl, rfl, rfl, rfl, fun _ _ => rfl, fun _ _ _ _ => rfl⟩
def tb29 : Nat → Option VE.Spec := tabOf [(59, wkIn spSzd), (69, wkIn spHasF)]
theorem tb29_59 : tb29 59 = some (wkIn spSzd) := rfl
theorem tb29_69 : tb29 69 = some (wkIn spHasF) := rfl
theorem tb29_ok : TabOK Try.prog rt0 tb29 := (tabOf_cons (by kernel_rfl) sat_impl_sized (tabOf_cons (by kernel_rfl) sat_slices_ContainsFunc_impl_Fill_impl_Fill tabOf_nil))
set_option maxHeartbeats 4000000 in
theorem sat_impl_ValidScene_0 : Sat Try.prog rt0 29 (wkOut spVScn) := by
  refine fn_sat hm ttok (tab := tb29) tb29_ok Try.func29 (c := Try.f29.body.getD .skip) (by kernel_rfl) (ts := [.tmp 2]) (by kernel_rfl) Try.ntmps29 (sq := fun _ => true) (by kernel_rfl) ?_
  intro args ins pk hpre0 hpk
  obtain ⟨rfl, hpre0⟩ := hpre0
  obtain ⟨s, rfl, hpre, hdec⟩ := famPre_ex hpre0
  clear hpre0 hdec
  try simp only [spVScn_pre] at hpre
  replace hpk : pk + 0 ≤ pickLimit := hpk
  refine ⟨Nat.le_of_ble_eq_true rfl, ?_⟩
  simp (config := { maxSteps := 1000000 }) only [go_sem, ↓ifP_true, ↓ifP_false, ↓ifP_not, Nat.reduceLT, Nat.reduceAdd, Nat.reduceBEq, Nat.reduceSub, Nat.reduceLeDiff, Nat.reduceEqDiff, Nat.reduceMul, Int.reduceToNat, Int.reduceEq, Int.reduceLT, Int.reduceLE, Int.reduceAdd, Int.reduceSub, Int.reduceMul, reduceCtorEq, cond_true, cond_false, forall_eq', forall_eq, forall_const, implies_true, if_true, if_false, exists_eq_left', exists_eq', exists_eq, ne_eq, Try.f29, tb29_59, tb29_69, spVScn_q, spVScn_A, spVScn_pre, spVScn_post, spSzd_q, spSzd_A, spSzd_pre, spSzd_post, spHasF_q, spHasF_A, spHasF_pre, spHasF_post]
  repeat' (first | apply And.intro | (intro _) | omega | assumption | with_reducible rfl)
  all_goals (first | (exact hpre; done) | (simp [vScn, *]; done) | (grind [vScn]; done))
theorem sat_impl_ValidScene : Sat Try.prog rt0 29 (wkIn spVScn) := sat_in (sat_out sat_impl_ValidScene_0)
theorem all_end {l : List Fil} {i : Int} (h : ¬ i < (l.length : Int)) (h2 : (l.take i.toNat).all vFil = true) : l.all vFil = true := by rwa [takeA (by omega)] at h2
def tb72 : Nat → Option VE.Spec := tabOf [(89, wkIn spVFil), (63, wkIn spSzd)]
theorem tb72_89 : tb72 89 = some (wkIn spVFil) := rfl
theorem tb72_63 : tb72 63 = some (wkIn spSzd) := rfl
theorem tb72_ok : TabOK Try.prog rt0 tb72 := (tabOf_cons (by kernel_rfl) sat_spec_validFill (tabOf_cons (by kernel_rfl) sat_spec_validSize tabOf_nil))
set_option maxHeartbeats 4000000 in
theorem sat_spec_validScene_0 : Sat Try.prog rt0 72 (wkOut spVScn) := by
  refine fn_sat hm ttok (tab := tb72) tb72_ok Try.func72 (c := Try.f72.body.getD .skip) (by kernel_rfl) (ts := [.tmp 2]) (by kernel_rfl) Try.ntmps72 (sq := fun _ => true) (by kernel_rfl) ?_
  intro args ins pk hpre0 hpk
  obtain ⟨rfl, hpre0⟩ := hpre0
  obtain ⟨s, rfl, hpre, hdec⟩ := famPre_ex hpre0
  clear hpre0 hdec
  try simp only [spVScn_pre] at hpre
  replace hpk : pk + 0 ≤ pickLimit := hpk
  refine ⟨Nat.le_of_ble_eq_true rfl, ?_⟩
  simp (config := { maxSteps := 1000000 }) only [go_sem, ↓ifP_true, ↓ifP_false, ↓ifP_not, Nat.reduceLT, Nat.reduceAdd, Nat.reduceBEq, Nat.reduceSub, Nat.reduceLeDiff, Nat.reduceEqDiff, Nat.reduceMul, Int.reduceToNat, Int.reduceEq, Int.reduceLT, Int.reduceLE, Int.reduceAdd, Int.reduceSub, Int.reduceMul, reduceCtorEq, cond_true, cond_false, forall_eq', forall_eq, forall_const, implies_true, if_true, if_false, exists_eq_left', exists_eq', exists_eq, ne_eq, Try.f72, tb72_89, tb72_63, spVScn_q, spVScn_A, spVScn_pre, spVScn_post, spVFil_q, spVFil_A, spVFil_pre, spVFil_post, spSzd_q, spSzd_A, spSzd_pre, spSzd_post]
  repeat' (first | apply And.intro | (intro _) | omega | assumption | with_reducible rfl)
  refine loopS (α := Int) false [0, 2, 3, 4, 5, 6, 7, 8, 9, 10, 11, 12, 13, 14, 15, 16, 17] (fun σ => []) (fun σ x => [(3, I x)]) (fun σ x => []) (fun i => 0) (fun σ => gI (σ.get 3)) (fun σ τ => []) (fun i => 0 ≤ i ∧ i ≤ s.fs.length ∧ (s.fs.take i.toNat).all vFil = true) (fun i => (s.fs.length - i).toNat) ⟨by (simp (config := { maxSteps := 1000000 }) only [go_sem, ↓ifP_true, ↓ifP_false, ↓ifP_not, Nat.reduceLT, Nat.reduceAdd, Nat.reduceBEq, Nat.reduceSub, Nat.reduceLeDiff, Nat.reduceEqDiff, Nat.reduceMul, Int.reduceToNat, Int.reduceEq, Int.reduceLT, Int.reduceLE, Int.reduceAdd, Int.reduceSub, Int.reduceMul, reduceCtorEq, cond_true, cond_false, forall_eq', forall_eq, forall_const, implies_true, if_true, if_false, exists_eq_left', exists_eq', exists_eq, ne_eq, Try.f72, tb72_89, tb72_63, spVScn_q, spVScn_A, spVScn_pre, spVScn_post, spVFil_q, spVFil_A, spVFil_pre, spVFil_post, spSzd_q, spSzd_A, spSzd_pre, spSzd_post]; (repeat' (first | apply And.intro | (intro _) | omega | assumption | with_reducible rfl))), ?_⟩
  rintro i hinv
  try dsimp only at hinv
  rcases elemAt s.fs i (by omega) with ⟨hlt, f, hk⟩ | hlt
  all_goals (first | ((have hlt2 := of_eq_true hlt); (have hf := okFs_at hpre hk); (have hpl := hpre.len); all_goals simp (config := { maxSteps := 1000000 }) only [go_sem, ↓ifP_true, ↓ifP_false, ↓ifP_not, Nat.reduceLT, Nat.reduceAdd, Nat.reduceBEq, Nat.reduceSub, Nat.reduceLeDiff, Nat.reduceEqDiff, Nat.reduceMul, Int.reduceToNat, Int.reduceEq, Int.reduceLT, Int.reduceLE, Int.reduceAdd, Int.reduceSub, Int.reduceMul, reduceCtorEq, cond_true, cond_false, forall_eq', forall_eq, forall_const, implies_true, if_true, if_false, exists_eq_left', exists_eq', exists_eq, ne_eq, Try.f72, tb72_89, tb72_63, spVScn_q, spVScn_A, spVScn_pre, spVScn_post, spVFil_q, spVFil_A, spVFil_pre, spVFil_post, spSzd_q, spSzd_A, spSzd_pre, spSzd_post, hlt, hk]) | (have hlt2 := of_eq_false hlt; simp (config := { maxSteps := 1000000 }) only [go_sem, ↓ifP_true, ↓ifP_false, ↓ifP_not, Nat.reduceLT, Nat.reduceAdd, Nat.reduceBEq, Nat.reduceSub, Nat.reduceLeDiff, Nat.reduceEqDiff, Nat.reduceMul, Int.reduceToNat, Int.reduceEq, Int.reduceLT, Int.reduceLE, Int.reduceAdd, Int.reduceSub, Int.reduceMul, reduceCtorEq, cond_true, cond_false, forall_eq', forall_eq, forall_const, implies_true, if_true, if_false, exists_eq_left', exists_eq', exists_eq, ne_eq, Try.f72, tb72_89, tb72_63, spVScn_q, spVScn_A, spVScn_pre, spVScn_post, spVFil_q, spVFil_A, spVFil_pre, spVFil_post, spSzd_q, spSzd_A, spSzd_pre, spSzd_post, hlt]))
  all_goals
    repeat' (first | apply And.intro | (intro _) | omega | assumption | with_reducible rfl)
  all_goals (first | ((have hpl := hpre.len; omega); done) | (exact okFs_at hpre ‹_›; done) | ((rw [takeN hk hinv.1, List.all_append, hinv.2.2]; simp [*]); done) | ((have h9 := all_bad hk ‹vFil f = false›; simp [vScn, h9]); done) | ((have h9 := all_end hlt2 hinv.2.2; simp [vScn, *]); done) | (grind [vScn, → takeN, takeA, all_bad]; done))
theorem sat_spec_validScene : Sat Try.prog rt0 72 (wkIn spVScn) := sat_in (sat_out sat_spec_validScene_0)
def tb30 : Nat → Option VE.Spec := tabOf [(72, wkIn spVScn)]
theorem tb30_72 : tb30 72 = some (wkIn spVScn) := rfl
theorem tb30_ok : TabOK Try.prog rt0 tb30 := (tabOf_cons (by kernel_rfl) sat_spec_validScene tabOf_nil)
set_option maxHeartbeats 4000000 in
theorem sat_spec_ValidScene_0 : Sat Try.prog rt0 30 (wkOut spVScn) := by
  refine fn_sat hm ttok (tab := tb30) tb30_ok Try.func30 (c := Try.f30.body.getD .skip) (by kernel_rfl) (ts := [.tmp 2]) (by kernel_rfl) Try.ntmps30 (sq := fun _ => true) (by kernel_rfl) ?_
  intro args ins pk hpre0 hpk
  obtain ⟨rfl, hpre0⟩ := hpre0
  obtain ⟨s, rfl, hpre, hdec⟩ := famPre_ex hpre0
  clear hpre0 hdec
  try simp only [spVScn_pre] at hpre
  replace hpk : pk + 0 ≤ pickLimit := hpk
  refine ⟨Nat.le_of_ble_eq_true rfl, ?_⟩
  simp (config := { maxSteps := 1000000 }) only [go_sem, ↓ifP_true, ↓ifP_false, ↓ifP_not, Nat.reduceLT, Nat.reduceAdd, Nat.reduceBEq, Nat.reduceSub, Nat.reduceLeDiff, Nat.reduceEqDiff, Nat.reduceMul, Int.reduceToNat, Int.reduceEq, Int.reduceLT, Int.reduceLE, Int.reduceAdd, Int.reduceSub, Int.reduceMul, reduceCtorEq, cond_true, cond_false, forall_eq', forall_eq, forall_const, implies_true, if_true, if_false, exists_eq_left', exists_eq', exists_eq, ne_eq, Try.f30, tb30_72, spVScn_q, spVScn_A, spVScn_pre, spVScn_post]
  repeat' (first | apply And.intro | (intro _) | omega | assumption | with_reducible rfl)
  all_goals (first | (exact hpre; done) | (rfl; done))
theorem sat_spec_ValidScene : Sat Try.prog rt0 30 (wkIn spVScn) := sat_in (sat_out sat_spec_ValidScene_0)
end Go.Proofs.Ytdkfamajaopgoaa
end
