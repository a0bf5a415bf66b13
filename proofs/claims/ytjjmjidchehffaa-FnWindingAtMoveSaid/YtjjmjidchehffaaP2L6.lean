/- Contracts of functions of the program vectorraster, each proved for all states that fit its description. No conditions. -/
import Derived.Test.YtjjmjidchehffaaPH
import Derived.Test.YtjjmjidchehffaaPI
import Derived.Test.YtjjmjidchehffaaP2L1
set_option maxRecDepth 100000
set_option linter.unusedSimpArgs false
set_option linter.unusedVariables false
namespace Go.Proofs.Ytjjmjidchehffaa
open Go Go.VE
def mvE (x y : Int) (e : Edge) : Edge := ⟨mv x y e.p, mv x y e.q⟩
theorem ringE_mv (r : List Pt) (x y : Int) : ringE (mvs r x y) = (ringE r).map (mvE x y) := by
  simp only [ringE, mvs, ← List.map_drop, ← List.map_take, ← List.map_append, List.zip_map', List.map_map]
  rw [List.zip_map, List.map_map]; rfl
theorem edges_mv (L : List (List Pt)) (x y : Int) : edgesOf (mvL L x y) = (edgesOf L).map (mvE x y) := by
  simp only [edgesOf, mvL, List.flatMap_map, List.map_flatMap, ringE_mv]
theorem stepE_mv (a b : Int) (e : Edge) (y : Int) : stepE (mvE a b e) (y + b) = stepE e y := by
  simp only [stepE, mvE, mv]
  repeat' split
  all_goals omega
theorem leftE_mv (a b : Int) (e : Edge) (x y : Int) : leftE (mvE a b e) (x + a) (y + b) = leftE e x y := by
  have h1 : ∀ u v : Int, u + a - (v + a) = u - v := fun u v => by omega
  have h2 : ∀ u v : Int, u + b - (v + b) = u - v := fun u v => by omega
  unfold leftE mvE mv
  dsimp only
  rw [h2 e.q.y e.p.y, h1 e.q.x e.p.x, h2 y e.p.y, h1 x e.p.x]
theorem con_mv (a b : Int) (e : Edge) (x y : Int) : con (mvE a b e) (x + a) (y + b) = con e x y := by
  unfold con
  rw [leftE_mv, stepE_mv]
theorem wind_mv (L : List (List Pt)) (a b x y : Int) : wind (mvL L a b) (x + a) (y + b) = wind L x y := by
  simp only [wind, windE, edges_mv, List.map_map, Function.comp_def, con_mv]
theorem vRings_mv {L : List (List Pt)} {a b : Int} (h : vRings L = true) (hm : mvOk L a b = true) : vRings (mvL L a b) = true := by
  simp only [vRings, Bool.and_eq_true, decide_eq_true_eq, List.all_eq_true, mvL_len, mvL_total, mvOk] at *
  refine ⟨⟨fun r hr => ?_, h.1.2⟩, h.2⟩
  simp only [mvL, List.mem_map] at hr
  obtain ⟨q, hq, rfl⟩ := hr
  have h1 := hm q hq
  have h2 := h.1.1 q hq
  simp only [mpOk, vRing_iff, Bool.and_eq_true, mvs_len] at *
  exact ⟨h2.1, h1.2⟩
theorem law_mv {L : List (List Pt)} {x y : Int} (h : vRings L = true) (hm : mvOk L 5 (-9) = true) (hx : ¬ 1000 < if x < 0 then -x else x) (hy : ¬ 1000 < if y < 0 then -y else y) (hx2 : ¬ 1000 < if x + 5 < 0 then -(x + 5) else x + 5) (hy2 : ¬ 1000 < if y - 9 < 0 then -(y - 9) else y - 9) :
    (if (vRings (mvL L 5 (-9)) && isU (x + 5) && isU (y - 9)) = true then wind (mvL L 5 (-9)) (x + 5) (y - 9) else 0) = if (vRings L && isU x && isU y) = true then wind L x y else 0 := by
  simp only [abs_iff, Bool.not_eq_false] at hx hy hx2 hy2
  rw [vRings_mv h hm, h, hx, hy, hx2, hy2]
  exact wind_mv L 5 (-9) x y
def tb13 : Nat → Option VE.Spec := tabOf [(42, wkIn spDWA), (27, wkIn spWAt), (43, wkIn spWAt), (26, wkIn spDist), (25, wkIn spVRings), (44, wkIn spMvL)]
theorem tb13_42 : tb13 42 = some (wkIn spDWA) := rfl
theorem tb13_27 : tb13 27 = some (wkIn spWAt) := rfl
theorem tb13_43 : tb13 43 = some (wkIn spWAt) := rfl
theorem tb13_26 : tb13 26 = some (wkIn spDist) := rfl
theorem tb13_25 : tb13 25 = some (wkIn spVRings) := rfl
theorem tb13_44 : tb13 44 = some (wkIn spMvL) := rfl
theorem tb13_ok : TabOK Try.prog rt0 tb13 := (tabOf_cons (by kernel_rfl) sat_spec_DrawWindingAt (tabOf_cons (by kernel_rfl) sat_impl_WindingAt (tabOf_cons (by kernel_rfl) sat_spec_WindingAt (tabOf_cons (by kernel_rfl) sat_laws_absolute (tabOf_cons (by kernel_rfl) sat_impl_ValidRings (tabOf_cons (by kernel_rfl) sat_laws_moved tabOf_nil))))))
set_option maxHeartbeats 4000000 in
theorem sat_laws_FnWindingAtMove_0 : Sat Try.prog rt0 13 spLaw := by
  refine fn_sat hm ttok (tab := tb13) tb13_ok Try.func13 (c := Try.f13.body.getD .skip) (by kernel_rfl) (ts := [.tmp 2]) (by kernel_rfl) Try.ntmps13 (sq := fun _ => true) (by kernel_rfl) ?_
  intro args ins pk hpre0 hpk
  obtain ⟨rfl, hpre0⟩ := hpre0
  obtain ⟨code, rfl, hpre, hdec⟩ := famPre_ex hpre0
  clear hpre0 hdec
  try simp only [spLaw_pre] at hpre
  replace hpk : pk + 100000 ≤ pickLimit := hpk
  refine ⟨Nat.le_of_ble_eq_true rfl, ?_⟩
  simp (config := { maxSteps := 1000000 }) only [go_sem, ↓ifP_true, ↓ifP_false, ↓ifP_not, Nat.reduceLT, Nat.reduceAdd, Nat.reduceBEq, Nat.reduceSub, Nat.reduceLeDiff, Nat.reduceEqDiff, Nat.reduceMul, Int.reduceToNat, Int.reduceEq, Int.reduceLT, Int.reduceLE, Int.reduceAdd, Int.reduceSub, Int.reduceMul, reduceCtorEq, cond_true, cond_false, forall_eq', forall_eq, forall_const, implies_true, if_true, if_false, exists_eq_left', exists_eq', exists_eq, ne_eq, Try.f13, tb13_42, tb13_27, tb13_43, tb13_26, tb13_25, tb13_44, spLaw_q, spLaw_A, spLaw_pre, spLaw_post, spDWA_q, spDWA_A, spDWA_pre, spDWA_post, spWAt_q, spWAt_A, spWAt_pre, spWAt_post, spDist_q, spDist_A, spDist_pre, spDist_post, spVRings_q, spVRings_A, spVRings_pre, spVRings_post, spMvL_q, spMvL_A, spMvL_pre, spMvL_post]
  repeat' (first | apply And.intro | (intro _) | omega | assumption | with_reducible rfl)
  all_goals (first | ((obtain ⟨_, _, _, _⟩ := (‹okP _› : okP _); dsimp only at *; omega); done) | ((rw [if_pos ‹mvOk _ _ _ = true›, mvL_len]; omega); done) | ((rw [if_pos ‹mvOk _ _ _ = true›, mvL_total]; omega); done) | ((rw [if_pos ‹mvOk _ _ _ = true›]; exact law_mv ‹_› ‹_› ‹_› ‹_› ‹_› ‹_›); done))
theorem sat_laws_FnWindingAtMove : Sat Try.prog rt0 13 (wkIn spLaw) := sat_in sat_laws_FnWindingAtMove_0
end Go.Proofs.Ytjjmjidchehffaa
