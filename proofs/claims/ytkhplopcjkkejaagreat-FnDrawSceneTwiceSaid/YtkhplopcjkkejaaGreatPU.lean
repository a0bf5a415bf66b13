/- Contracts of functions of the program vectorraster, each proved for all states that fit its description. No conditions. -/
import Derived.Test.YtkhplopcjkkejaaGreatPS
import Derived.Test.YtkhplopcjkkejaaGreatKT
import Derived.Test.YtkhplopcjkkejaaGreatPT
set_option linter.unusedSimpArgs false
set_option linter.unusedVariables false
section
set_option maxRecDepth 100000
set_option linter.unusedSimpArgs false
set_option linter.unusedVariables false
namespace Go.Proofs.YtkhplopcjkkejaaGreat
open Go Go.VE
def pixRow (fs : List Fil) (w : Nat) (r : Int) : List Colr := (List.range w).map fun c : Nat => pixF fs c r
def pixAll (fs : List Fil) (w h : Nat) : List Colr := (List.range h).flatMap fun r : Nat => pixRow fs w r
def drawV (s : Scn) : List Colr := if vScn s = true then pixAll s.fs s.w.toNat s.h.toNat else []
theorem pixRow_len (fs : List Fil) (w : Nat) (r : Int) : (pixRow fs w r).length = w := by simp [pixRow]
theorem pixRow_step (fs : List Fil) (r : Int) {k : Int} (h : 0 ≤ k) : pixRow fs (k + 1).toNat r = pixRow fs k.toNat r ++ [pixF fs k r] := by
  rw [show (k + 1).toNat = k.toNat + 1 by omega, pixRow, List.range_succ, List.map_append]
  simp only [List.map_cons, List.map_nil, Int.toNat_of_nonneg h]; rfl
theorem pixAll_step (fs : List Fil) (w : Nat) {i : Int} (h : 0 ≤ i) : pixAll fs w (i + 1).toNat = pixAll fs w i.toNat ++ pixRow fs w i := by
  rw [show (i + 1).toNat = i.toNat + 1 by omega, pixAll, List.range_succ, List.flatMap_append]
  simp only [List.flatMap_cons, List.flatMap_nil, List.append_nil, Int.toNat_of_nonneg h]; rfl
theorem pixAll_len (fs : List Fil) (w h : Nat) : (pixAll fs w h).length = h * w := by
  induction h with
  | zero => simp [pixAll]
  | succ h ih =>
    have := pixAll_step fs w (i := (h : Int)) (by omega)
    rw [show ((h : Int) + 1).toNat = h + 1 by omega, Int.toNat_natCast] at this
    rw [this, List.length_append, ih, pixRow_len, Nat.succ_mul]
theorem sq144 {m n : Nat} (h1 : m ≤ 12) (h2 : n ≤ 12) : m * n ≤ 144 := Nat.mul_le_mul h1 h2
theorem szd_r {w h : Int} (hz : szd w h = true) : (1 ≤ w ∧ w ≤ 12) ∧ 1 ≤ h ∧ h ≤ 12 := by simpa only [szd, decide_eq_true_eq] using hz
theorem wh_bd {w h : Int} (hz : szd w h = true) : 1 ≤ w * h ∧ w * h ≤ 144 := by
  have hr := szd_r hz
  have h1 := Int.mul_le_mul hr.1.2 hr.2.2 (by omega) (by omega)
  have h2 := Int.mul_le_mul hr.1.1 hr.2.1 (by omega) (by omega)
  omega
theorem pixAll_bd (fs : List Fil) {s : Scn} (hz : szd s.w s.h = true) {i : Int} (h1 : i ≤ s.h) : (pixAll fs s.w.toNat i.toNat).length ≤ 144 := by
  have hr := szd_r hz
  rw [pixAll_len]
  exact sq144 (by omega) (by omega)
theorem drawV_len (s : Scn) : (drawV s).length ≤ 144 := by
  unfold drawV
  split
  · exact pixAll_bd _ (vScn_parts ‹_›).1 (Int.le_refl _)
  · simp
theorem drawV_pos {s : Scn} (h : ¬ ((drawV s).length : Int) = 0) : vScn s = true ∧ drawV s = pixAll s.fs s.w.toNat s.h.toNat := by
  unfold drawV at *
  split
  · exact ⟨‹_›, rfl⟩
  · rw [if_neg ‹_›] at h; simp at h
theorem pixAll_get (fs : List Fil) (w : Nat) (h i : Nat) (hw : 0 < w) (hi : i < h * w) : (pixAll fs w h)[i]? = some (pixF fs ((i % w : Nat) : Int) ((i / w : Nat) : Int)) := by
  induction h with
  | zero => simp at hi
  | succ h ih =>
    have e := pixAll_step fs w (i := (h : Int)) (by omega)
    rw [show ((h : Int) + 1).toNat = h + 1 by omega, Int.toNat_natCast] at e
    rw [e]
    by_cases hl : i < h * w
    · rw [List.getElem?_append_left (by rw [pixAll_len]; exact hl)]
      exact ih hl
    · rw [List.getElem?_append_right (by rw [pixAll_len]; omega), pixAll_len]
      have hlt : i - h * w < w := by rw [Nat.succ_mul] at hi; omega
      have hd : i / w = h := Nat.div_eq_of_lt_le (by omega) hi
      have hm : i % w = i - h * w := by
        have := Nat.div_add_mod i w
        rw [hd, Nat.mul_comm] at this; omega
      rw [hd, hm]
      simp only [pixRow, List.getElem?_map, List.getElem?_range hlt, Option.map_some]
def spDraw_A : Scn → List AV
  | s => [.agg (scC s)]
def spDraw_pre : Scn → Prop
  | s => okFs s.fs ∧ vScn s = true
def spDraw_post : Scn → AV → List Box → Prop
  | s, r, bs => r = .c (.own 0 (pixAll s.fs s.w.toNat s.h.toNat).length false) ∧ bs = [⟨(pixAll s.fs s.w.toNat s.h.toNat).map coC, 4, 29, true, false⟩]
def spDraw : VE.Spec := famSpec spDraw_A d_sc spDraw_pre spDraw_post 0 true
theorem spDraw_q : spDraw.flat = true ∧ spDraw.mt = [] ∧ spDraw.shut = false ∧ spDraw.cost = 0 ∧ (∀ a i, spDraw.pre a i = (i = [] ∧ famPre d_sc spDraw_A spDraw_pre a)) ∧ ∀ a i r b, spDraw.post a i r b = (famPost d_sc spDraw_post a r b) := ⟨rfl, rfl, rfl, rfl, fun _ _ => rfl, fun _ _ _ _ => rfl⟩
def spDrawS_A : Scn → List AV
  | s => [.agg (scC s)]
def spDrawS_pre : Scn → Prop
  | s => okFs s.fs
def spDrawS_post : Scn → AV → List Box → Prop
  | s, r, bs => r = .c (.sl false (((drawV s)).map coC)) ∧ bs = []
def spDrawS : VE.Spec := famSpecS spDrawS_A d_sc spDrawS_pre spDrawS_post 0 false
theorem spDrawS_q : spDrawS.flat = false ∧ spDrawS.mt = [] ∧ spDrawS.shut = true ∧ spDrawS.cost = 0 ∧ (∀ a i, spDrawS.pre a i = (i = [] ∧ famPre d_sc spDrawS_A spDrawS_pre a)) ∧ ∀ a i r b, spDrawS.post a i r b = (famPost d_sc spDrawS_post a r b) := ⟨rfl, rfl, rfl, rfl, fun _ _ => rfl, fun _ _ _ _ => rfl⟩
end Go.Proofs.YtkhplopcjkkejaaGreat
end
section
set_option maxRecDepth 100000
set_option linter.unusedSimpArgs false
set_option linter.unusedVariables false
namespace Go.Proofs.YtkhplopcjkkejaaGreat
open Go Go.VE
def tb68 : Nat → Option VE.Spec := tabOf [(48, wkIn spPix)]
theorem tb68_48 : tb68 48 = some (wkIn spPix) := rfl
theorem tb68_ok : TabOK Tryz.prog rt0 tb68 := (tabOf_cons (by kernel_rfl) sat_impl_Scene_pixel tabOf_nil)
set_option maxHeartbeats 4000000 in
theorem sat_impl_Scene_draw_0 : Sat Tryz.prog rt0 68 (wkOut spDraw) := by
  refine fn_sat hm ttok (tab := tb68) tb68_ok Tryz.func68 (c := Tryz.f68.body.getD .skip) (by kernel_rfl) (ts := [.tmp 2]) (by kernel_rfl) Tryz.ntmps68 (sq := fun _ => true) (by kernel_rfl) ?_
  intro args ins pk hpre0 hpk
  obtain ⟨rfl, hpre0⟩ := hpre0
  obtain ⟨s, rfl, hpre, hdec⟩ := famPre_ex hpre0
  clear hpre0 hdec
  try simp only [spDraw_pre] at hpre
  replace hpk : pk + 0 ≤ pickLimit := hpk
  refine ⟨Nat.le_of_ble_eq_true rfl, ?_⟩
  obtain ⟨hfs, hv⟩ := hpre
  obtain ⟨hz, hl4, hal⟩ := vScn_parts hv
  have hr := szd_r hz
  have hwh := wh_bd hz
  simp (config := { maxSteps := 1000000 }) only [go_sem, ↓ifP_true, ↓ifP_false, ↓ifP_not, Nat.reduceLT, Nat.reduceAdd, Nat.reduceBEq, Nat.reduceSub, Nat.reduceLeDiff, Nat.reduceEqDiff, Nat.reduceMul, Int.reduceToNat, Int.reduceEq, Int.reduceLT, Int.reduceLE, Int.reduceAdd, Int.reduceSub, Int.reduceMul, reduceCtorEq, cond_true, cond_false, forall_eq', forall_eq, forall_const, implies_true, if_true, if_false, exists_eq_left', exists_eq', exists_eq, ne_eq, Tryz.f68, tb68_48, spDraw_q, spDraw_A, spDraw_pre, spDraw_post, spPix_q, spPix_A, spPix_pre, spPix_post]
  repeat' (first | apply And.intro | (intro _) | omega | assumption | with_reducible rfl)
  any_goals
    refine loopS (α := (List Colr) × Int) false [0, 3, 4, 5, 6, 7, 8, 9, 10, 11, 12, 14, 15, 16, 17, 18, 19, 20, 21, 22, 23, 24, 25, 26, 27, 28, 29, 30] (fun σ => [gId (σ.get 3)]) (fun σ x => [(3, .c (.own (gId (σ.get 3)) (x.1).length false)), (14, I x.2)]) (fun σ x => [(gId (σ.get 3), some ⟨(x.1).map coC, 4, 29, true, false⟩)]) (fun (o, i) => 0) (fun σ => (gL coCd σ (σ.get 3), gI (σ.get 14))) (fun σ τ => [(gId (σ.get 3), gId (τ.get 3))]) (fun (o, i) => (0 ≤ i ∧ i ≤ s.h) ∧ o = pixAll s.fs s.w.toNat i.toNat) (fun (o, i) => (s.h - i).toNat) ⟨by (simp (config := { maxSteps := 1000000 }) only [go_sem, ↓ifP_true, ↓ifP_false, ↓ifP_not, Nat.reduceLT, Nat.reduceAdd, Nat.reduceBEq, Nat.reduceSub, Nat.reduceLeDiff, Nat.reduceEqDiff, Nat.reduceMul, Int.reduceToNat, Int.reduceEq, Int.reduceLT, Int.reduceLE, Int.reduceAdd, Int.reduceSub, Int.reduceMul, reduceCtorEq, cond_true, cond_false, forall_eq', forall_eq, forall_const, implies_true, if_true, if_false, exists_eq_left', exists_eq', exists_eq, ne_eq, Tryz.f68, tb68_48, spDraw_q, spDraw_A, spDraw_pre, spDraw_post, spPix_q, spPix_A, spPix_pre, spPix_post]; (repeat' (first | apply And.intro | (intro _) | omega | assumption | with_reducible rfl)); all_goals (first | rfl)), ?_⟩
    rintro ⟨o, i⟩ hinv
    try dsimp only at hinv
    simp (config := { maxSteps := 1000000 }) only [go_sem, ↓ifP_true, ↓ifP_false, ↓ifP_not, Nat.reduceLT, Nat.reduceAdd, Nat.reduceBEq, Nat.reduceSub, Nat.reduceLeDiff, Nat.reduceEqDiff, Nat.reduceMul, Int.reduceToNat, Int.reduceEq, Int.reduceLT, Int.reduceLE, Int.reduceAdd, Int.reduceSub, Int.reduceMul, reduceCtorEq, cond_true, cond_false, forall_eq', forall_eq, forall_const, implies_true, if_true, if_false, exists_eq_left', exists_eq', exists_eq, ne_eq, Tryz.f68, tb68_48, spDraw_q, spDraw_A, spDraw_pre, spDraw_post, spPix_q, spPix_A, spPix_pre, spPix_post]
    have hb := pixAll_bd s.fs hz (i := i) (by omega)
    rw [← hinv.2] at hb
    repeat' (first | apply And.intro | (intro _) | omega | assumption | with_reducible rfl)
  
  any_goals
    have hb0 := pixAll_bd s.fs hz (i := i) (by omega)
    refine loopS (α := (List Colr) × Int) false [0, 3, 5, 6, 7, 8, 9, 10, 11, 12, 15, 16, 17, 19, 20, 21, 22, 23, 24, 25, 26, 27, 28, 29] (fun σ => [gId (σ.get 3)]) (fun σ x => [(3, .c (.own (gId (σ.get 3)) (x.1).length false)), (19, I x.2)]) (fun σ x => [(gId (σ.get 3), some ⟨(x.1).map coC, 4, 29, true, false⟩)]) (fun (o, k) => 0) (fun σ => (gL coCd σ (σ.get 3), gI (σ.get 19))) (fun σ τ => [(gId (σ.get 3), gId (τ.get 3))]) (fun (o, k) => (0 ≤ k ∧ k ≤ s.w) ∧ o = pixAll s.fs s.w.toNat i.toNat ++ pixRow s.fs k.toNat i) (fun (o, k) => (s.w - k).toNat) ⟨by (simp (config := { maxSteps := 1000000 }) only [go_sem, ↓ifP_true, ↓ifP_false, ↓ifP_not, Nat.reduceLT, Nat.reduceAdd, Nat.reduceBEq, Nat.reduceSub, Nat.reduceLeDiff, Nat.reduceEqDiff, Nat.reduceMul, Int.reduceToNat, Int.reduceEq, Int.reduceLT, Int.reduceLE, Int.reduceAdd, Int.reduceSub, Int.reduceMul, reduceCtorEq, cond_true, cond_false, forall_eq', forall_eq, forall_const, implies_true, if_true, if_false, exists_eq_left', exists_eq', exists_eq, ne_eq, Tryz.f68, tb68_48, spDraw_q, spDraw_A, spDraw_pre, spDraw_post, spPix_q, spPix_A, spPix_pre, spPix_post]; (repeat' (first | apply And.intro | (intro _) | omega | assumption | with_reducible rfl)); all_goals (first | (rw [hinv.2]; simp [pixRow]))), ?_⟩
    rintro ⟨o, k⟩ hinv
    try dsimp only at hinv
    simp (config := { maxSteps := 1000000 }) only [go_sem, ↓ifP_true, ↓ifP_false, ↓ifP_not, Nat.reduceLT, Nat.reduceAdd, Nat.reduceBEq, Nat.reduceSub, Nat.reduceLeDiff, Nat.reduceEqDiff, Nat.reduceMul, Int.reduceToNat, Int.reduceEq, Int.reduceLT, Int.reduceLE, Int.reduceAdd, Int.reduceSub, Int.reduceMul, reduceCtorEq, cond_true, cond_false, forall_eq', forall_eq, forall_const, implies_true, if_true, if_false, exists_eq_left', exists_eq', exists_eq, ne_eq, Tryz.f68, tb68_48, spDraw_q, spDraw_A, spDraw_pre, spDraw_post, spPix_q, spPix_A, spPix_pre, spPix_post]
    have hb2 := pixRow_len s.fs k.toNat i
    have hb3 : o.length ≤ 160 := by rw [hinv.2, List.length_append, hb2]; omega
    repeat' (first | apply And.intro | (intro _) | omega | assumption | with_reducible rfl)
  all_goals (first | (exact ⟨hfs, hal⟩; done) | (exact hfs; done) | (exact hal; done) | ((rw [hinv.2, List.append_assoc, pixRow_step _ _ hinv.1.1]); done) | ((rw [hinv.2, pixAll_step _ _ (by omega), show k = s.w by omega]); done) | ((rw [hinv.2, show i = s.h by omega]); done) | ((rw [hinv.2]; simp [pixRow]); done) | (omega; done))
theorem sat_impl_Scene_draw : Sat Tryz.prog rt0 68 (wkIn spDraw) := sat_in (sat_out sat_impl_Scene_draw_0)
def tb25 : Nat → Option VE.Spec := tabOf [(17, wkIn spVScn), (68, wkIn spDraw)]
theorem tb25_17 : tb25 17 = some (wkIn spVScn) := rfl
theorem tb25_68 : tb25 68 = some (wkIn spDraw) := rfl
theorem tb25_ok : TabOK Tryz.prog rt0 tb25 := (tabOf_cons (by kernel_rfl) sat_impl_ValidScene (tabOf_cons (by kernel_rfl) sat_impl_Scene_draw tabOf_nil))
set_option maxHeartbeats 4000000 in
theorem sat_impl_DrawScene_0 : Sat Tryz.prog rt0 25 (wkOut spDrawS) := by
  refine fn_sat hm ttok (tab := tb25) tb25_ok Tryz.func25 (c := Tryz.f25.body.getD .skip) (by kernel_rfl) (ts := [.tmp 2]) (by kernel_rfl) Tryz.ntmps25 (sq := fun _ => true) (by kernel_rfl) ?_
  intro args ins pk hpre0 hpk
  obtain ⟨rfl, hpre0⟩ := hpre0
  obtain ⟨s, rfl, hpre, hdec⟩ := famPre_ex hpre0
  clear hpre0 hdec
  try simp only [spDrawS_pre] at hpre
  replace hpk : pk + 0 ≤ pickLimit := hpk
  refine ⟨Nat.le_of_ble_eq_true rfl, ?_⟩
  simp (config := { maxSteps := 1000000 }) only [go_sem, ↓ifP_true, ↓ifP_false, ↓ifP_not, Nat.reduceLT, Nat.reduceAdd, Nat.reduceBEq, Nat.reduceSub, Nat.reduceLeDiff, Nat.reduceEqDiff, Nat.reduceMul, Int.reduceToNat, Int.reduceEq, Int.reduceLT, Int.reduceLE, Int.reduceAdd, Int.reduceSub, Int.reduceMul, reduceCtorEq, cond_true, cond_false, forall_eq', forall_eq, forall_const, implies_true, if_true, if_false, exists_eq_left', exists_eq', exists_eq, ne_eq, Tryz.f25, tb25_17, tb25_68, spDrawS_q, spDrawS_A, spDrawS_pre, spDrawS_post, spVScn_q, spVScn_A, spVScn_pre, spVScn_post, spDraw_q, spDraw_A, spDraw_pre, spDraw_post]
  repeat' (first | apply And.intro | (intro _) | omega | assumption | with_reducible rfl)
  all_goals (first | (exact hpre; done) | (exact ⟨hpre, ‹_›⟩; done) | (assumption; done) | ((rw [drawV, if_pos ‹_›]); done) | ((rw [drawV, ‹vScn s = false›]; rfl); done))
theorem sat_impl_DrawScene : Sat Tryz.prog rt0 25 (wkIn spDrawS) := sat_in (sat_out sat_impl_DrawScene_0)
end Go.Proofs.YtkhplopcjkkejaaGreat
end
section
set_option maxRecDepth 100000
set_option linter.unusedSimpArgs false
set_option linter.unusedVariables false
namespace Go.Proofs.YtkhplopcjkkejaaGreat
open Go Go.VE
def tb27 : Nat → Option VE.Spec := tabOf [(49, wkIn spVScn), (51, wkIn spPix)]
theorem tb27_49 : tb27 49 = some (wkIn spVScn) := rfl
theorem tb27_51 : tb27 51 = some (wkIn spPix) := rfl
theorem tb27_ok : TabOK Tryz.prog rt0 tb27 := (tabOf_cons (by kernel_rfl) sat_spec_validScene (tabOf_cons (by kernel_rfl) sat_spec_pixel tabOf_nil))
set_option maxHeartbeats 4000000 in
theorem sat_spec_DrawScene_0 : Sat Tryz.prog rt0 27 (wkOut spDrawS) := by
  refine fn_sat hm ttok (tab := tb27) tb27_ok Tryz.func27 (c := Tryz.f27.body.getD .skip) (by kernel_rfl) (ts := [.tmp 2]) (by kernel_rfl) Tryz.ntmps27 (sq := fun _ => true) (by kernel_rfl) ?_
  intro args ins pk hpre0 hpk
  obtain ⟨rfl, hpre0⟩ := hpre0
  obtain ⟨s, rfl, hpre, hdec⟩ := famPre_ex hpre0
  clear hpre0 hdec
  try simp only [spDrawS_pre] at hpre
  replace hpk : pk + 0 ≤ pickLimit := hpk
  refine ⟨Nat.le_of_ble_eq_true rfl, ?_⟩
  have hfs := hpre
  simp (config := { maxSteps := 1000000 }) only [go_sem, ↓ifP_true, ↓ifP_false, ↓ifP_not, Nat.reduceLT, Nat.reduceAdd, Nat.reduceBEq, Nat.reduceSub, Nat.reduceLeDiff, Nat.reduceEqDiff, Nat.reduceMul, Int.reduceToNat, Int.reduceEq, Int.reduceLT, Int.reduceLE, Int.reduceAdd, Int.reduceSub, Int.reduceMul, reduceCtorEq, cond_true, cond_false, forall_eq', forall_eq, forall_const, implies_true, if_true, if_false, exists_eq_left', exists_eq', exists_eq, ne_eq, Tryz.f27, tb27_49, tb27_51, spDrawS_q, spDrawS_A, spDrawS_pre, spDrawS_post, spVScn_q, spVScn_A, spVScn_pre, spVScn_post, spPix_q, spPix_A, spPix_pre, spPix_post]
  repeat' (first | apply And.intro | (intro _) | omega | assumption | with_reducible rfl)
  any_goals
    refine loopS (α := (List Colr) × Int) false [0, 3, 4, 5, 6, 7, 8, 9, 10, 11, 12, 13, 14, 15, 16, 17, 18, 19, 20, 21, 22, 23, 24, 25, 26, 27, 28] (fun σ => [gId (σ.get 3)]) (fun σ x => [(3, .c (.own (gId (σ.get 3)) (x.1).length false)), (4, I x.2)]) (fun σ x => [(gId (σ.get 3), some ⟨(x.1).map coC, 4, 29, true, false⟩)]) (fun (o, i) => 0) (fun σ => (gL coCd σ (σ.get 3), gI (σ.get 4))) (fun σ τ => [(gId (σ.get 3), gId (τ.get 3))]) (fun (o, i) => (0 ≤ i ∧ i ≤ s.h) ∧ o = pixAll s.fs s.w.toNat i.toNat) (fun (o, i) => (s.h - i).toNat) ⟨by (simp (config := { maxSteps := 1000000 }) only [go_sem, ↓ifP_true, ↓ifP_false, ↓ifP_not, Nat.reduceLT, Nat.reduceAdd, Nat.reduceBEq, Nat.reduceSub, Nat.reduceLeDiff, Nat.reduceEqDiff, Nat.reduceMul, Int.reduceToNat, Int.reduceEq, Int.reduceLT, Int.reduceLE, Int.reduceAdd, Int.reduceSub, Int.reduceMul, reduceCtorEq, cond_true, cond_false, forall_eq', forall_eq, forall_const, implies_true, if_true, if_false, exists_eq_left', exists_eq', exists_eq, ne_eq, Tryz.f27, tb27_49, tb27_51, spDrawS_q, spDrawS_A, spDrawS_pre, spDrawS_post, spVScn_q, spVScn_A, spVScn_pre, spVScn_post, spPix_q, spPix_A, spPix_pre, spPix_post]; (repeat' (first | apply And.intro | (intro _) | omega | assumption | with_reducible rfl)); all_goals (first | rfl | (have h9 := szd_r (vScn_parts ‹vScn s = true›).1; omega))), ?_⟩
    have hv : vScn s = true := ‹_›
    obtain ⟨hz, hl4, hal⟩ := vScn_parts hv
    have hr := szd_r hz
    rintro ⟨o, i⟩ hinv
    try dsimp only at hinv
    simp (config := { maxSteps := 1000000 }) only [go_sem, ↓ifP_true, ↓ifP_false, ↓ifP_not, Nat.reduceLT, Nat.reduceAdd, Nat.reduceBEq, Nat.reduceSub, Nat.reduceLeDiff, Nat.reduceEqDiff, Nat.reduceMul, Int.reduceToNat, Int.reduceEq, Int.reduceLT, Int.reduceLE, Int.reduceAdd, Int.reduceSub, Int.reduceMul, reduceCtorEq, cond_true, cond_false, forall_eq', forall_eq, forall_const, implies_true, if_true, if_false, exists_eq_left', exists_eq', exists_eq, ne_eq, Tryz.f27, tb27_49, tb27_51, spDrawS_q, spDrawS_A, spDrawS_pre, spDrawS_post, spVScn_q, spVScn_A, spVScn_pre, spVScn_post, spPix_q, spPix_A, spPix_pre, spPix_post]
    have hb := pixAll_bd s.fs hz (i := i) (by omega)
    rw [← hinv.2] at hb
    repeat' (first | apply And.intro | (intro _) | omega | assumption | with_reducible rfl)
  
  any_goals
    have hb0 := pixAll_bd s.fs hz (i := i) (by omega)
    refine loopS (α := (List Colr) × Int) false [0, 3, 5, 6, 7, 8, 9, 10, 11, 12, 13, 14, 15, 16, 17, 18, 19, 20, 21, 22, 23, 24, 25, 26, 27, 28] (fun σ => [gId (σ.get 3)]) (fun σ x => [(3, .c (.own (gId (σ.get 3)) (x.1).length false)), (5, I x.2)]) (fun σ x => [(gId (σ.get 3), some ⟨(x.1).map coC, 4, 29, true, false⟩)]) (fun (o, k) => 0) (fun σ => (gL coCd σ (σ.get 3), gI (σ.get 5))) (fun σ τ => [(gId (σ.get 3), gId (τ.get 3))]) (fun (o, k) => (0 ≤ k ∧ k ≤ s.w) ∧ o = pixAll s.fs s.w.toNat i.toNat ++ pixRow s.fs k.toNat i) (fun (o, k) => (s.w - k).toNat) ⟨by (simp (config := { maxSteps := 1000000 }) only [go_sem, ↓ifP_true, ↓ifP_false, ↓ifP_not, Nat.reduceLT, Nat.reduceAdd, Nat.reduceBEq, Nat.reduceSub, Nat.reduceLeDiff, Nat.reduceEqDiff, Nat.reduceMul, Int.reduceToNat, Int.reduceEq, Int.reduceLT, Int.reduceLE, Int.reduceAdd, Int.reduceSub, Int.reduceMul, reduceCtorEq, cond_true, cond_false, forall_eq', forall_eq, forall_const, implies_true, if_true, if_false, exists_eq_left', exists_eq', exists_eq, ne_eq, Tryz.f27, tb27_49, tb27_51, spDrawS_q, spDrawS_A, spDrawS_pre, spDrawS_post, spVScn_q, spVScn_A, spVScn_pre, spVScn_post, spPix_q, spPix_A, spPix_pre, spPix_post]; (repeat' (first | apply And.intro | (intro _) | omega | assumption | with_reducible rfl)); all_goals (first | (rw [hinv.2]; simp [pixRow]))), ?_⟩
    rintro ⟨o, k⟩ hinv
    try dsimp only at hinv
    simp (config := { maxSteps := 1000000 }) only [go_sem, ↓ifP_true, ↓ifP_false, ↓ifP_not, Nat.reduceLT, Nat.reduceAdd, Nat.reduceBEq, Nat.reduceSub, Nat.reduceLeDiff, Nat.reduceEqDiff, Nat.reduceMul, Int.reduceToNat, Int.reduceEq, Int.reduceLT, Int.reduceLE, Int.reduceAdd, Int.reduceSub, Int.reduceMul, reduceCtorEq, cond_true, cond_false, forall_eq', forall_eq, forall_const, implies_true, if_true, if_false, exists_eq_left', exists_eq', exists_eq, ne_eq, Tryz.f27, tb27_49, tb27_51, spDrawS_q, spDrawS_A, spDrawS_pre, spDrawS_post, spVScn_q, spVScn_A, spVScn_pre, spVScn_post, spPix_q, spPix_A, spPix_pre, spPix_post]
    have hb2 := pixRow_len s.fs k.toNat i
    have hb3 : o.length ≤ 160 := by rw [hinv.2, List.length_append, hb2]; omega
    repeat' (first | apply And.intro | (intro _) | omega | assumption | with_reducible rfl)
  all_goals (first | (exact hpre; done) | (exact ⟨hfs, hal⟩; done) | (exact hfs; done) | (exact hal; done) | ((rw [hinv.2, List.append_assoc, pixRow_step _ _ hinv.1.1]); done) | ((rw [hinv.2, pixAll_step _ _ (by omega), show k = s.w by omega]); done) | ((rw [hinv.2, show i = s.h by omega]); done) | ((rw [hinv.2]; simp [pixRow]); done) | (omega; done) | ((rw [drawV, if_pos hv, hinv.2, show i = s.h by omega]); done) | ((rw [drawV, if_pos hv, hinv.2, show i = s.h by omega]; rfl); done) | ((rw [drawV, ‹vScn s = false›]; rfl); done))
theorem sat_spec_DrawScene : Sat Tryz.prog rt0 27 (wkIn spDrawS) := sat_in (sat_out sat_spec_DrawScene_0)
end Go.Proofs.YtkhplopcjkkejaaGreat
end
section
set_option maxRecDepth 100000
set_option linter.unusedSimpArgs false
set_option linter.unusedVariables false
namespace Go.Proofs.YtkhplopcjkkejaaGreat
open Go Go.VE
theorem eqL2_step {α : Type} {a b : List α} {i : Int} {x y : α} (ha : a[i.toNat]? = some x) (hb : b[i.toNat]? = some y) (e : x = y) (h0 : 0 ≤ i) (h : a.take i.toNat = b.take i.toNat) : a.take (i + 1).toNat = b.take (i + 1).toNat := by
  subst e; rw [takeN ha h0, takeN hb h0, h]
theorem eqL2_no {α : Type} {a b : List α} {i : Int} {x y : α} (ha : a[i.toNat]? = some x) (hb : b[i.toNat]? = some y) (h : x ≠ y) : a ≠ b := fun e => by
  rw [e, hb] at ha; exact h (Option.some.inj ha).symm
theorem eqL2_end {α : Type} {a b : List α} {i : Int} (hl : (a.length : Int) = b.length) (hi : ¬ i < (a.length : Int)) (h : a.take i.toNat = b.take i.toNat) : a = b := by
  rwa [takeA (by omega), takeA (by omega)] at h
theorem eqL2_len {α : Type} {a b : List α} (hl : ¬ (a.length : Int) = b.length) : a ≠ b := fun e => hl (by rw [e])
def spEqC_A : (List Colr) × (List Colr) → List AV
  | (a, b) => [.c (.sl false (a.map coC)), .c (.sl false (b.map coC))]
def spEqC_pre : (List Colr) × (List Colr) → Prop
  | (a, b) => a.length ≤ 1000000000 ∧ b.length ≤ 1000000000
def spEqC_post : (List Colr) × (List Colr) → AV → List Box → Prop
  | (a, b), r, bs => r = B (decide (a = b)) ∧ bs = []
def spEqC : VE.Spec := famSpec spEqC_A d_lco_lco spEqC_pre spEqC_post 0 true
theorem spEqC_q : spEqC.flat = true ∧ spEqC.mt = [] ∧ spEqC.shut = false ∧ spEqC.cost = 0 ∧ (∀ a i, spEqC.pre a i = (i = [] ∧ famPre d_lco_lco spEqC_A spEqC_pre a)) ∧ ∀ a i r b, spEqC.post a i r b = (famPost d_lco_lco spEqC_post a r b) := ⟨rfl, rfl, rfl, rfl, fun _ _ => rfl, fun _ _ _ _ => rfl⟩
def tb26 : Nat → Option VE.Spec := tabOf []
theorem tb26_ok : TabOK Tryz.prog rt0 tb26 := tabOf_nil
set_option maxHeartbeats 4000000 in
theorem sat_laws_equalColors_0 : Sat Tryz.prog rt0 26 (wkOut spEqC) := by
  refine fn_sat hm ttok (tab := tb26) tb26_ok Tryz.func26 (c := Tryz.f26.body.getD .skip) (by kernel_rfl) (ts := [.tmp 4]) (by kernel_rfl) Tryz.ntmps26 (sq := fun _ => true) (by kernel_rfl) ?_
  intro args ins pk hpre0 hpk
  obtain ⟨rfl, hpre0⟩ := hpre0
  obtain ⟨⟨a, b⟩, rfl, hpre, hdec⟩ := famPre_ex hpre0
  clear hpre0 hdec
  try simp only [spEqC_pre] at hpre
  replace hpk : pk + 0 ≤ pickLimit := hpk
  refine ⟨Nat.le_of_ble_eq_true rfl, ?_⟩
  simp (config := { maxSteps := 1000000 }) only [go_sem, ↓ifP_true, ↓ifP_false, ↓ifP_not, Nat.reduceLT, Nat.reduceAdd, Nat.reduceBEq, Nat.reduceSub, Nat.reduceLeDiff, Nat.reduceEqDiff, Nat.reduceMul, Int.reduceToNat, Int.reduceEq, Int.reduceLT, Int.reduceLE, Int.reduceAdd, Int.reduceSub, Int.reduceMul, reduceCtorEq, cond_true, cond_false, forall_eq', forall_eq, forall_const, implies_true, if_true, if_false, exists_eq_left', exists_eq', exists_eq, ne_eq, Tryz.f26, spEqC_q, spEqC_A, spEqC_pre, spEqC_post]
  repeat' (first | apply And.intro | (intro _) | omega | assumption | with_reducible rfl)
  any_goals
    refine loopS (α := Int) false [2, 3, 4, 5, 6, 7, 8, 9, 10, 11, 12, 13, 14, 15, 16, 17, 18, 19, 20, 21, 22, 23, 24, 25] (fun σ => []) (fun σ x => [(5, I x)]) (fun σ x => []) (fun i => 0) (fun σ => gI (σ.get 5)) (fun σ τ => []) (fun i => 0 ≤ i ∧ i ≤ a.length ∧ a.take i.toNat = b.take i.toNat) (fun i => (a.length - i).toNat) ⟨by (simp (config := { maxSteps := 1000000 }) only [go_sem, ↓ifP_true, ↓ifP_false, ↓ifP_not, Nat.reduceLT, Nat.reduceAdd, Nat.reduceBEq, Nat.reduceSub, Nat.reduceLeDiff, Nat.reduceEqDiff, Nat.reduceMul, Int.reduceToNat, Int.reduceEq, Int.reduceLT, Int.reduceLE, Int.reduceAdd, Int.reduceSub, Int.reduceMul, reduceCtorEq, cond_true, cond_false, forall_eq', forall_eq, forall_const, implies_true, if_true, if_false, exists_eq_left', exists_eq', exists_eq, ne_eq, Tryz.f26, spEqC_q, spEqC_A, spEqC_pre, spEqC_post]; (repeat' (first | apply And.intro | (intro _) | omega | assumption | with_reducible rfl)); all_goals (first | rfl)), ?_⟩
    rintro i hinv
    try dsimp only at hinv
    simp (config := { maxSteps := 1000000 }) only [go_sem, ↓ifP_true, ↓ifP_false, ↓ifP_not, Nat.reduceLT, Nat.reduceAdd, Nat.reduceBEq, Nat.reduceSub, Nat.reduceLeDiff, Nat.reduceEqDiff, Nat.reduceMul, Int.reduceToNat, Int.reduceEq, Int.reduceLT, Int.reduceLE, Int.reduceAdd, Int.reduceSub, Int.reduceMul, reduceCtorEq, cond_true, cond_false, forall_eq', forall_eq, forall_const, implies_true, if_true, if_false, exists_eq_left', exists_eq', exists_eq, ne_eq, Tryz.f26, spEqC_q, spEqC_A, spEqC_pre, spEqC_post]
    repeat' (first | apply And.intro | (intro _) | omega | assumption | with_reducible rfl)
  
  all_goals (first | (exact eqL2_step ‹_› ‹_› ‹_› hinv.1 hinv.2.2; done) | (exact (decide_eq_false (eqL2_no ‹_› ‹_› ‹_›)).symm; done) | (exact (decide_eq_true (eqL2_end ‹_› ‹_› hinv.2.2)).symm; done) | (exact (decide_eq_false (eqL2_len ‹_›)).symm; done))
theorem sat_laws_equalColors : Sat Tryz.prog rt0 26 (wkIn spEqC) := sat_in (sat_out sat_laws_equalColors_0)
end Go.Proofs.YtkhplopcjkkejaaGreat
end
section
set_option maxRecDepth 100000
set_option linter.unusedSimpArgs false
set_option linter.unusedVariables false
namespace Go.Proofs.YtkhplopcjkkejaaGreat
open Go Go.VE
theorem drawV_rng {s : Scn} {i : Int} (hn : ¬ ((drawV s).length : Int) = 0) (h0 : 0 ≤ i) (hi : i < ((drawV s).length : Int)) : vScn s = true ∧ ((1 ≤ s.w ∧ s.w ≤ 12) ∧ 1 ≤ s.h ∧ s.h ≤ 12) ∧ (0 ≤ i.tmod s.w ∧ i.tmod s.w < s.w) ∧ (0 ≤ i.tdiv s.w ∧ i.tdiv s.w < s.h) ∧ (drawV s)[i.toNat]? = some (pixF s.fs (i.tmod s.w) (i.tdiv s.w)) := by
  obtain ⟨hv, e⟩ := drawV_pos hn
  have hr := szd_r (vScn_parts hv).1
  rw [e, pixAll_len] at hi
  have hw : 0 < s.w.toNat := by omega
  have hi2 : i.toNat < s.h.toNat * s.w.toNat := by omega
  have hg := pixAll_get s.fs s.w.toNat s.h.toNat i.toNat hw hi2
  have e1 : ((i.toNat % s.w.toNat : Nat) : Int) = i.tmod s.w := by
    rw [Int.tmod_eq_emod_of_nonneg h0, Int.natCast_emod, Int.toNat_of_nonneg h0, Int.toNat_of_nonneg (by omega)]
  have e2 : ((i.toNat / s.w.toNat : Nat) : Int) = i.tdiv s.w := by
    rw [Int.tdiv_eq_ediv_of_nonneg h0, Int.natCast_ediv, Int.toNat_of_nonneg h0, Int.toNat_of_nonneg (by omega)]
  rw [e1, e2] at hg
  have h3 : i.toNat % s.w.toNat < s.w.toNat := Nat.mod_lt _ hw
  have h4 : i.toNat / s.w.toNat < s.h.toNat := Nat.div_lt_of_lt_mul (by rw [Nat.mul_comm]; exact hi2)
  have h5 : ((i.toNat % s.w.toNat : Nat) : Int) < (s.w.toNat : Int) := Int.ofNat_lt.2 h3
  have h6 : ((i.toNat / s.w.toNat : Nat) : Int) < (s.h.toNat : Int) := Int.ofNat_lt.2 h4
  rw [e1] at h5
  rw [e2] at h6
  refine ⟨hv, hr, ⟨Int.tmod_nonneg _ h0, by omega⟩, ⟨Int.tdiv_nonneg h0 (by omega), by omega⟩, by rw [e]; exact hg⟩
theorem drawV_pix {s : Scn} {i : Int} {k : Colr} (hn : ¬ ((drawV s).length : Int) = 0) (h0 : 0 ≤ i) (hi : i < ((drawV s).length : Int)) (hk : (drawV s)[i.toNat]? = some k) : k = pixV s (i.tmod s.w) (i.tdiv s.w) := by
  obtain ⟨hv, hr, h1, h2, h3⟩ := drawV_rng hn h0 hi
  rw [hk] at h3
  cases h3
  exact (pix_rng hv (by omega) (by omega) (by omega) (by omega)).1.symm
theorem pixAll_nil (w h : Nat) : pixAll [] w h = List.replicate (h * w) ⟨0, 0, 0, 0⟩ := by
  induction h with
  | zero => simp [pixAll]
  | succ h ih =>
    have := pixAll_step [] w (i := (h : Int)) (by omega)
    rw [show ((h : Int) + 1).toNat = h + 1 by omega, Int.toNat_natCast] at this
    rw [this, ih, Nat.succ_mul, ← List.replicate_append_replicate]
    congr 1
    refine List.eq_replicate_iff.2 ⟨pixRow_len _ _ _, fun b hb => ?_⟩
    obtain ⟨c, _, rfl⟩ := List.mem_map.1 hb
    rfl
theorem draw_nil {s : Scn} (hn : ¬ ((drawV s).length : Int) = 0) : drawV ⟨s.w, s.h, []⟩ = List.replicate (drawV s).length ⟨0, 0, 0, 0⟩ := by
  obtain ⟨hv, e⟩ := drawV_pos hn
  have h1 : vScn ⟨s.w, s.h, []⟩ = true := by
    have hz := (vScn_parts hv).1
    simp [vScn, hz]
  rw [drawV, if_pos h1, e, pixAll_len]
  exact pixAll_nil _ _
theorem rep_co (n : Nat) : List.replicate n [C.v (.int .i64 0), C.v (.int .i64 0), C.v (.int .i64 0), C.v (.int .i64 0)] = List.map coC (List.replicate n ⟨0, 0, 0, 0⟩) := by
  rw [List.map_replicate]; rfl
theorem draw_size {s : Scn} (hn : ¬ ((drawV s).length : Int) = 0) : ((drawV s).length : Int) = s.w * s.h := by
  obtain ⟨hv, e⟩ := drawV_pos hn
  have hr := szd_r (vScn_parts hv).1
  rw [e, pixAll_len, Int.natCast_mul, Int.toNat_of_nonneg (by omega), Int.toNat_of_nonneg (by omega), Int.mul_comm]
theorem draw_low {s : Scn} (hn : ¬ ((drawV s).length : Int) = 0) (h1 : ¬ s.h = 1) : drawV ⟨s.w, s.h - 1, s.fs⟩ = (drawV s).take (s.w * (s.h - 1)).toNat ∧ 0 ≤ s.w * (s.h - 1) ∧ s.w * (s.h - 1) ≤ ((drawV s).length : Int) ∧ s.w * (s.h - 1) ≤ 1000 := by
  obtain ⟨hv, e⟩ := drawV_pos hn
  obtain ⟨hz, h4, hal⟩ := vScn_parts hv
  have hr := szd_r hz
  have hz2 : szd s.w (s.h - 1) = true := by simp only [szd, decide_eq_true_eq]; omega
  have h2 : vScn ⟨s.w, s.h - 1, s.fs⟩ = true := by simp [vScn, hz2, h4, hal]
  have hb := wh_bd hz2
  have hs := draw_size hn
  have hm : s.w * (s.h - 1) ≤ s.w * s.h := Int.mul_le_mul_of_nonneg_left (by omega) (by omega)
  refine ⟨?_, by omega, by omega, by omega⟩
  rw [drawV, if_pos h2, e]
  have hst := pixAll_step s.fs s.w.toNat (i := s.h - 1) (by omega)
  rw [show s.h - 1 + 1 = s.h by omega] at hst
  rw [hst, List.take_append_of_le_length]
  · dsimp only
    rw [List.take_of_length_le]
    rw [pixAll_len]
    have : ((s.h - 1).toNat * s.w.toNat : Nat) = (s.w * (s.h - 1)).toNat := by
      rw [← Int.toNat_mul (by omega) (by omega), Int.mul_comm]
    omega
  · rw [pixAll_len]
    have : ((s.h - 1).toNat * s.w.toNat : Nat) = (s.w * (s.h - 1)).toNat := by
      rw [← Int.toNat_mul (by omega) (by omega), Int.mul_comm]
    omega
end Go.Proofs.YtkhplopcjkkejaaGreat
end
