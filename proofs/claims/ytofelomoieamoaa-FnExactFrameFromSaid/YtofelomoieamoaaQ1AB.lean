/- Contracts of functions of the program vectorraster, each proved for all states that fit its description. No conditions. -/
import Derived.Test.YtofelomoieamoaaQ1A5
set_option maxRecDepth 100000
set_option linter.unusedSimpArgs false
set_option linter.unusedVariables false
namespace Go.Proofs.Ytofelomoieamoaa
open Go Go.VE
theorem ff_q1 {R : List Rn} {i k : Int} {r : Rn} {q : List Colr} (h0 : 0 ≤ k) (h : q = rX (R.take i.toNat) ++ List.replicate k.toNat r.c) : q ++ [r.c] = rX (R.take i.toNat) ++ List.replicate (k + 1).toNat r.c := by
  rw [h, show (k + 1).toNat = k.toNat + 1 by omega, List.replicate_succ', List.append_assoc]
theorem ff_q2 {R : List Rn} {i k : Int} {r : Rn} {q : List Colr} (h0 : 0 ≤ i) (hk : R[i.toNat]? = some r) (hm : k = r.m) (h : q = rX (R.take i.toNat) ++ List.replicate k.toNat r.c) : q = rX (R.take (i + 1).toNat) := by
  subst hm
  rw [h, show (i + 1).toNat = i.toNat + 1 by omega, rX_take hk]
theorem ff_q3 {R : List Rn} {i : Int} {r : Rn} (h0 : 0 ≤ i) (hk : R[i.toNat]? = some r) (h1 : 1 ≤ r.m) (hR : isR (R.take i.toNat) = true) (h2 : ∀ q, 0 < i → R[(i - 1).toNat]? = some q → q.c ≠ r.c) : isR (R.take (i + 1).toNat) = true := by
  rw [show (i + 1).toNat = i.toNat + 1 by omega]
  exact isR_take hR hk h1 fun q hq hq2 => h2 q (by omega) (by rwa [show (i - 1).toNat = i.toNat - 1 by omega])
theorem ff_h1 {R : List Rn} {i : Int} {r q : Rn} (hq : R[(i - 1).toNat]? = some q) (hn : ¬ r.c = q.c) : ∀ p, 0 < i → R[(i - 1).toNat]? = some p → p.c ≠ r.c := fun p _ hp e => by
  rw [hq] at hp; exact hn (by rw [Option.some.inj hp]; exact e.symm)
theorem ff_h2 {R : List Rn} {i : Int} {r : Rn} (hn : ¬ 0 < i) : ∀ p, 0 < i → R[(i - 1).toNat]? = some p → p.c ≠ r.c := fun p h => absurd h hn
theorem ff_n3i {w h : Int} {o : List Rn} {i : Int} {r q : Rn} (h0 : 0 < i) (hi : o[i.toNat]? = some r) (hq : o[(i - 1).toNat]? = some q) (hb : r.c = q.c) : okFF w h o = false := ff_n3 hq (by rwa [show (i - 1).toNat + 1 = i.toNat by omega]) hb.symm
theorem ff_e {R : List Rn} {p : List Colr} {i : Int} (hi : ¬ i < (R.length : Int)) (hp : p = rX (R.take i.toNat)) : p = rX R := by rw [hp, takeA (by omega)]
theorem ff_eR {R : List Rn} {i : Int} (hi : ¬ i < (R.length : Int)) (hR : isR (R.take i.toNat) = true) : isR R = true := by rwa [takeA (by omega)] at hR
theorem ff_x5 {w h : Int} {R : List Rn} {p : List Colr} {i : Int} (hi : ¬ i < (R.length : Int)) (hp : p = rX (R.take i.toNat)) (hv : vFrm ⟨w, h, p⟩ = false) : okFF w h R = false := ff_n5 (by rwa [ff_e hi hp] at hv)
theorem ff_y5 {w h : Int} {R : List Rn} {p : List Colr} {i : Int} (hi : ¬ i < (R.length : Int)) (hp : p = rX (R.take i.toNat)) (hR : isR (R.take i.toNat) = true) (hv : vFrm ⟨w, h, p⟩ = true) : okFF w h R = true ∧ ffF w h R = ⟨w, h, p⟩ := by
  rw [ff_e hi hp] at hv ⊢
  have := ff_y2 hv (ff_eR hi hR)
  exact ⟨this, ff_yes this⟩
theorem ff_z {w h : Int} {o : List Rn} (x : okFF w h o = false) : [C.v (.int .i64 0), C.v (.int .i64 0), C.v (.slice none 0 0)] = wkCs (frC (ffF w h o)) ∨ True := .inr trivial
def spFrom_A : Int × Int × (List Rn) → List AV
  | (w, h, R) => [I w, I h, .c (.sl false (R.map rnC))]
def spFrom_pre : Int × Int × (List Rn) → Prop
  | (w, h, R) => R.length ≤ 2000000
def spFrom_post : Int × Int × (List Rn) → AV → List Box → Prop
  | (w, h, R), r, bs => r = .tup [.agg (frC (ffF w h R)), B (okFF w h R)] ∧ bs = []
def spFrom : VE.Spec := famSpecS spFrom_A d_i_i_lrn spFrom_pre spFrom_post 0 false
theorem spFrom_q : spFrom.flat = false ∧ spFrom.mt = [] ∧ spFrom.shut = true ∧ spFrom.cost = 0 ∧ (∀ a i, spFrom.pre a i = (i = [] ∧ famPre d_i_i_lrn spFrom_A spFrom_pre a)) ∧ ∀ a i r b, spFrom.post a i r b = (famPost d_i_i_lrn spFrom_post a r b) := ⟨rfl, rfl, rfl, rfl, fun _ _ => rfl, fun _ _ _ _ => rfl⟩
def tb33 : Nat → Option VE.Spec := tabOf [(41, wkIn spSzd), (60, wkIn spIn), (45, wkIn spVFrm)]
theorem tb33_41 : tb33 41 = some (wkIn spSzd) := rfl
theorem tb33_60 : tb33 60 = some (wkIn spIn) := rfl
theorem tb33_45 : tb33 45 = some (wkIn spVFrm) := rfl
theorem tb33_ok : TabOK Try.prog rt0 tb33 := (tabOf_cons (by kernel_rfl) sat_spec_validSize (tabOf_cons (by kernel_rfl) sat_spec_inRange (tabOf_cons (by kernel_rfl) sat_spec_validFrame tabOf_nil)))
set_option maxHeartbeats 4000000 in
theorem sat_spec_FrameFrom_0 : Sat Try.prog rt0 33 (wkOut spFrom) := by
  refine fn_sat hm ttok (tab := tb33) tb33_ok Try.func33 (c := Try.f33.body.getD .skip) (by kernel_rfl) (ts := [.cell 6 27, .tmp 7]) (by kernel_rfl) Try.ntmps33 (sq := fun _ => true) (by kernel_rfl) ?_
  intro args ins pk hpre0 hpk
  obtain ⟨rfl, hpre0⟩ := hpre0
  obtain ⟨⟨w, h, R⟩, rfl, hpre, hdec⟩ := famPre_ex hpre0
  clear hpre0 hdec
  try simp only [spFrom_pre] at hpre
  replace hpk : pk + 0 ≤ pickLimit := hpk
  refine ⟨Nat.le_of_ble_eq_true rfl, ?_⟩
  simp (config := { maxSteps := 1000000 }) only [go_sem, ↓ifP_true, ↓ifP_false, ↓ifP_not, Nat.reduceLT, Nat.reduceAdd, Nat.reduceBEq, Nat.reduceSub, Nat.reduceLeDiff, Nat.reduceEqDiff, Nat.reduceMul, Int.reduceToNat, Int.reduceEq, Int.reduceLT, Int.reduceLE, Int.reduceAdd, Int.reduceSub, Int.reduceMul, reduceCtorEq, cond_true, cond_false, forall_eq', forall_eq, forall_const, implies_true, if_true, if_false, exists_eq_left', exists_eq', exists_eq, ne_eq, Try.f33, tb33_41, tb33_60, tb33_45, spFrom_q, spFrom_A, spFrom_pre, spFrom_post, spSzd_q, spSzd_A, spSzd_pre, spSzd_post, spIn_q, spIn_A, spIn_pre, spIn_post, spVFrm_q, spVFrm_A, spVFrm_pre, spVFrm_post]
  repeat' (first | apply And.intro | (intro _) | omega | assumption | with_reducible rfl)
  all_goals try (have hwh := wh_bd ‹szd w h = true›)
  any_goals
    refine loopS (α := (List Colr) × Int) false [3, 4, 5, 7, 8, 9, 10, 12, 13, 14, 15, 16, 17, 18, 19, 20, 21, 22, 23, 24, 25, 26, 27, 28, 29, 30, 31, 32, 33, 34, 35, 36, 37, 38, 39, 40, 41, 42, 43, 44, 45, 46, 47, 48, 49, 50, 51, 52, 53, 54, 55, 56, 57, 58, 59, 60, 61, 62, 63, 64, 65, 66, 67, 68, 69, 70, 71, 72, 73, 74, 75, 76, 77, 78, 79, 80, 87] (fun σ => [gId (σ.get 8)]) (fun σ x => [(8, .c (.own (gId (σ.get 8)) (x.1).length false)), (9, I x.2)]) (fun σ x => [(gId (σ.get 8), some ⟨(x.1).map coC, 4, 44, true, false⟩)]) (fun (p, i) => 0) (fun σ => (gL coCd σ (σ.get 8), gI (σ.get 9))) (fun σ τ => [(gId (σ.get 8), gId (τ.get 8))]) (fun (p, i) => (0 ≤ i ∧ i ≤ R.length) ∧ p = rX (R.take i.toNat) ∧ isR (R.take i.toNat) = true ∧ (p.length : Int) ≤ w * h) (fun (p, i) => (R.length - i).toNat) ⟨by (simp (config := { maxSteps := 1000000 }) only [go_sem, ↓ifP_true, ↓ifP_false, ↓ifP_not, Nat.reduceLT, Nat.reduceAdd, Nat.reduceBEq, Nat.reduceSub, Nat.reduceLeDiff, Nat.reduceEqDiff, Nat.reduceMul, Int.reduceToNat, Int.reduceEq, Int.reduceLT, Int.reduceLE, Int.reduceAdd, Int.reduceSub, Int.reduceMul, reduceCtorEq, cond_true, cond_false, forall_eq', forall_eq, forall_const, implies_true, if_true, if_false, exists_eq_left', exists_eq', exists_eq, ne_eq, Try.f33, tb33_41, tb33_60, tb33_45, spFrom_q, spFrom_A, spFrom_pre, spFrom_post, spSzd_q, spSzd_A, spSzd_pre, spSzd_post, spIn_q, spIn_A, spIn_pre, spIn_post, spVFrm_q, spVFrm_A, spVFrm_pre, spVFrm_post]; (repeat' (first | apply And.intro | (intro _) | omega | assumption | with_reducible rfl)); all_goals (first | rfl | omega)), ?_⟩
    rintro ⟨p, i⟩ hinv
    try dsimp only at hinv
    rcases elemAt R i (by omega) with ⟨hlt, r, hk⟩ | hlt
    all_goals (first | ((have hlt2 := of_eq_true hlt); all_goals simp (config := { maxSteps := 1000000 }) only [go_sem, ↓ifP_true, ↓ifP_false, ↓ifP_not, Nat.reduceLT, Nat.reduceAdd, Nat.reduceBEq, Nat.reduceSub, Nat.reduceLeDiff, Nat.reduceEqDiff, Nat.reduceMul, Int.reduceToNat, Int.reduceEq, Int.reduceLT, Int.reduceLE, Int.reduceAdd, Int.reduceSub, Int.reduceMul, reduceCtorEq, cond_true, cond_false, forall_eq', forall_eq, forall_const, implies_true, if_true, if_false, exists_eq_left', exists_eq', exists_eq, ne_eq, Try.f33, tb33_41, tb33_60, tb33_45, spFrom_q, spFrom_A, spFrom_pre, spFrom_post, spSzd_q, spSzd_A, spSzd_pre, spSzd_post, spIn_q, spIn_A, spIn_pre, spIn_post, spVFrm_q, spVFrm_A, spVFrm_pre, spVFrm_post, hlt, hk]) | (have hlt2 := of_eq_false hlt; simp (config := { maxSteps := 1000000 }) only [go_sem, ↓ifP_true, ↓ifP_false, ↓ifP_not, Nat.reduceLT, Nat.reduceAdd, Nat.reduceBEq, Nat.reduceSub, Nat.reduceLeDiff, Nat.reduceEqDiff, Nat.reduceMul, Int.reduceToNat, Int.reduceEq, Int.reduceLT, Int.reduceLE, Int.reduceAdd, Int.reduceSub, Int.reduceMul, reduceCtorEq, cond_true, cond_false, forall_eq', forall_eq, forall_const, implies_true, if_true, if_false, exists_eq_left', exists_eq', exists_eq, ne_eq, Try.f33, tb33_41, tb33_60, tb33_45, spFrom_q, spFrom_A, spFrom_pre, spFrom_post, spSzd_q, spSzd_A, spSzd_pre, spSzd_post, spIn_q, spIn_A, spIn_pre, spIn_post, spVFrm_q, spVFrm_A, spVFrm_pre, spVFrm_post, hlt]))
    all_goals
      repeat' (first | apply And.intro | (intro _) | omega | assumption | with_reducible rfl)
  
  any_goals
    have hk0 := hk
    have hlt0 := hlt
    have hI := hinv
    refine loopS (α := (List Colr) × Int) false [3, 4, 5, 8, 10, 12, 13, 14, 15, 16, 17, 18, 19, 20, 21, 22, 23, 24, 25, 26, 27, 28, 29, 30, 31, 32, 33, 34, 35, 36, 37, 38, 39, 40, 41, 42, 43, 44, 45, 46, 47, 48, 49, 50, 51, 52, 53, 54, 55, 56, 57, 58, 59, 60, 61, 62, 63, 64, 65, 66, 67, 68, 69, 70, 71, 72, 73, 74, 75, 76, 77, 78, 79, 80, 87] (fun σ => [gId (σ.get 8)]) (fun σ x => [(8, .c (.own (gId (σ.get 8)) (x.1).length false)), (10, I x.2)]) (fun σ x => [(gId (σ.get 8), some ⟨(x.1).map coC, 4, 44, true, false⟩)]) (fun (q, k) => 0) (fun σ => (gL coCd σ (σ.get 8), gI (σ.get 10))) (fun σ τ => [(gId (σ.get 8), gId (τ.get 8))]) (fun (q, k) => (0 ≤ k ∧ k ≤ r.m) ∧ q = rX (R.take i.toNat) ++ List.replicate k.toNat r.c) (fun (q, k) => (r.m - k).toNat) ⟨by (simp (config := { maxSteps := 1000000 }) only [go_sem, ↓ifP_true, ↓ifP_false, ↓ifP_not, Nat.reduceLT, Nat.reduceAdd, Nat.reduceBEq, Nat.reduceSub, Nat.reduceLeDiff, Nat.reduceEqDiff, Nat.reduceMul, Int.reduceToNat, Int.reduceEq, Int.reduceLT, Int.reduceLE, Int.reduceAdd, Int.reduceSub, Int.reduceMul, reduceCtorEq, cond_true, cond_false, forall_eq', forall_eq, forall_const, implies_true, if_true, if_false, exists_eq_left', exists_eq', exists_eq, ne_eq, Try.f33, tb33_41, tb33_60, tb33_45, spFrom_q, spFrom_A, spFrom_pre, spFrom_post, spSzd_q, spSzd_A, spSzd_pre, spSzd_post, spIn_q, spIn_A, spIn_pre, spIn_post, spVFrm_q, spVFrm_A, spVFrm_pre, spVFrm_post, hlt0, hk0]; (repeat' (first | apply And.intro | (intro _) | omega | assumption | with_reducible rfl)); all_goals (first | (rw [← hI.2.1]; simp))), ?_⟩
    rintro ⟨q, k⟩ hinv
    try dsimp only at hinv
    simp (config := { maxSteps := 1000000 }) only [go_sem, ↓ifP_true, ↓ifP_false, ↓ifP_not, Nat.reduceLT, Nat.reduceAdd, Nat.reduceBEq, Nat.reduceSub, Nat.reduceLeDiff, Nat.reduceEqDiff, Nat.reduceMul, Int.reduceToNat, Int.reduceEq, Int.reduceLT, Int.reduceLE, Int.reduceAdd, Int.reduceSub, Int.reduceMul, reduceCtorEq, cond_true, cond_false, forall_eq', forall_eq, forall_const, implies_true, if_true, if_false, exists_eq_left', exists_eq', exists_eq, ne_eq, Try.f33, tb33_41, tb33_60, tb33_45, spFrom_q, spFrom_A, spFrom_pre, spFrom_post, spSzd_q, spSzd_A, spSzd_pre, spSzd_post, spIn_q, spIn_A, spIn_pre, spIn_post, spVFrm_q, spVFrm_A, spVFrm_pre, spVFrm_post, hlt0, hk0]
    have hql : (q.length : Int) ≤ 200 := by rw [hinv.2, List.length_append, List.length_replicate, ← hI.2.1]; omega
    repeat' (first | apply And.intro | (intro _) | omega | assumption | with_reducible rfl)
  all_goals (first | (omega; done) | (rfl; done) | (exact ff_q1 hinv.1.1 hinv.2; done) | ((rw [ff_no (ff_n4 ‹w * h < _›)]; rfl); done) | (exact (ff_n4 ‹w * h < _›).symm; done) | ((rw [ff_no (ff_n3i ‹0 < i› hk ‹R[(i - 1).toNat]? = some _› ‹_ = _›)]; rfl); done) | (exact (ff_n3i ‹0 < i› hk ‹R[(i - 1).toNat]? = some _› ‹_ = _›).symm; done) | ((rw [ff_no (ff_n2 hk (by rw [← hinv.2.1]; omega))]; rfl); done) | (exact (ff_n2 hk (by rw [← hinv.2.1]; omega)).symm; done) | ((rw [ff_no (ff_x5 hlt2 hinv.2.1 ‹vFrm _ = false›)]; rfl); done) | (exact (ff_x5 hlt2 hinv.2.1 ‹vFrm _ = false›).symm; done) | ((rw [ff_no (ff_n6 ‹szd w h = false›)]; rfl); done) | (exact (ff_n6 ‹szd w h = false›).symm; done) | ((rw [(ff_y5 hlt2 hinv.2.1 hinv.2.2.1 ‹vFrm _ = true›).2]; rfl); done) | (exact (ff_y5 hlt2 hinv.2.1 hinv.2.2.1 ‹vFrm _ = true›).1.symm; done) | (exact ff_q2 hI.1.1 hk0 (by omega) hinv.2; done) | (exact ff_q3 hI.1.1 hk0 ‹1 ≤ r.m› hI.2.2.1 (ff_h1 ‹_› ‹_›); done) | (exact ff_q3 hI.1.1 hk0 ‹1 ≤ r.m› hI.2.2.1 (ff_h2 ‹_›); done) | ((rw [hinv.2, List.length_append, List.length_replicate, ← hI.2.1]; omega); done) | (skip; done))
theorem sat_spec_FrameFrom : Sat Try.prog rt0 33 (wkIn spFrom) := sat_in (sat_out sat_spec_FrameFrom_0)
end Go.Proofs.Ytofelomoieamoaa
