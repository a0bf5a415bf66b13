/- Contracts of functions of the program vectorraster, each proved for all states that fit its description. No conditions. -/
import Derived.Test.YtjjmjidchehffaaPH
import Derived.Test.YtjjmjidchehffaaPO
set_option maxRecDepth 100000
set_option linter.unusedSimpArgs false
set_option linter.unusedVariables false
namespace Go.Proofs.Ytjjmjidchehffaa
open Go Go.VE
def movesOf (p : List Verb) : List Verb := p.filter fun v => decide (v.k = 0)
theorem moves_snoc {p : List Verb} {i : Int} {v : Verb} (hv : p[i.toNat]? = some v) (h0 : 0 ≤ i) : movesOf (p.take (i + 1).toNat) = if v.k = 0 then movesOf (p.take i.toNat) ++ [v] else movesOf (p.take i.toNat) := by
  rw [takeN hv h0, movesOf, List.filter_append]
  by_cases h : v.k = 0
  · rw [if_pos h]; simp [h, movesOf]
  · rw [if_neg h]; simp [h, movesOf]
theorem moves_vv : ∀ (p : List Verb) (b b' : Bool), vVerbs b p = true → vVerbs b' (movesOf p) = true
  | [], _, _, _ => rfl
  | v :: r, b, b', h => by
    simp only [vVerbs, Bool.and_eq_true] at h
    by_cases hk : v.k = 0
    · have e : movesOf (v :: r) = v :: movesOf r := by simp [movesOf, hk]
      rw [e]
      simp only [vVerbs, Bool.and_eq_true]
      refine ⟨?_, moves_vv r _ _ h.2⟩
      have h1 := h.1
      simp only [vVerb, hk, decide_true, Bool.or_true, Bool.and_true, Bool.and_eq_true] at h1 ⊢
      exact h1
    · have e : movesOf (v :: r) = movesOf r := by simp [movesOf, hk]
      rw [e]
      exact moves_vv r _ _ h.2
theorem moves_pts : ∀ p : List Verb, nPts (movesOf p) ≤ nPts p
  | [] => Nat.le_refl _
  | v :: r => by
    have h := moves_pts r
    by_cases hk : v.k = 0
    · have e : movesOf (v :: r) = v :: movesOf r := by simp [movesOf, hk]
      rw [e]; simp only [nPts, List.map_cons, List.sum_cons] at *; omega
    · have e : movesOf (v :: r) = movesOf r := by simp [movesOf, hk]
      rw [e]; simp only [nPts, List.map_cons, List.sum_cons] at *; omega
theorem moves_len (p : List Verb) : (movesOf p).length ≤ p.length := List.length_filter_le _ _
theorem moves_vp {p : List Verb} (h : vPath p = true) : vPath (movesOf p) = true := by
  have h1 := moves_pts p
  have h2 := moves_len p
  simp only [vPath, Bool.and_eq_true, decide_eq_true_eq] at *
  exact ⟨⟨moves_vv p _ _ h.1.1, by omega⟩, by omega⟩
theorem moves_one {p : List Verb} (h : vPath p = true) : ∀ v ∈ movesOf p, v.k = 0 ∧ v.ps.length = 1 := by
  intro v hv
  obtain ⟨hv, hk⟩ := List.mem_filter.1 hv
  have hk := of_decide_eq_true hk
  refine ⟨hk, ?_⟩
  obtain ⟨n, hn⟩ := List.getElem?_of_mem hv
  have hb := (vVerb_pts (vPath_at h (i := n) (by omega) hn)).1
  rw [hk] at hb
  have h1 : (v.ps.length : Int) = 1 := hb
  omega
theorem rings_mv {p : List Verb} (h : ∀ v ∈ p, v.k = 0 ∧ v.ps.length = 1) : ∀ n : Nat, n ≤ p.length → ringsOf (p.take n) = (p.take n).map (·.ps)
  | 0, _ => rfl
  | n + 1, hn => by
    have ih := rings_mv h n (by omega)
    obtain ⟨v, hv⟩ : ∃ v, p[((n : Nat) : Int).toNat]? = some v := ⟨_, List.getElem?_eq_getElem (by omega)⟩
    have h1 := h v (List.mem_of_getElem? hv)
    obtain ⟨k, ps⟩ := v
    obtain ⟨rfl, h2⟩ := h1
    have h3 := rings_move hv (by omega) h2
    have h4 := takeN hv (by omega)
    simp only [Int.toNat_natCast, show ((n : Int) + 1).toNat = n + 1 by omega] at h3 h4
    rw [h3, h4, ih]; simp
theorem rings_moves {p : List Verb} (h : vPath p = true) : ringsOf (movesOf p) = (movesOf p).map (·.ps) := by
  have h1 := rings_mv (moves_one h) (movesOf p).length (Nat.le_refl _)
  rwa [List.take_length] at h1
theorem rings_num {p : List Verb} (h : vPath p = true) : ∀ n : Nat, n ≤ p.length → (ringsOf (p.take n)).length = (movesOf (p.take n)).length
  | 0, _ => rfl
  | n + 1, hn => by
    have ih := rings_num h n (by omega)
    obtain ⟨v, hv⟩ : ∃ v, p[((n : Nat) : Int).toNat]? = some v := ⟨_, List.getElem?_eq_getElem (by omega)⟩
    have h4 := moves_snoc hv (by omega)
    have hb := vVerb_pts (vPath_at h (by omega) hv)
    obtain ⟨k, ps⟩ := v
    simp only [Int.toNat_natCast, show ((n : Int) + 1).toNat = n + 1 by omega] at h4
    rw [h4]
    have e1 : n + 1 = ((n : Int) + 1).toNat := by omega
    dsimp only at hb
    by_cases k0 : k = 0
    · subst k0
      rw [if_pos rfl, e1, rings_move hv (by omega) (one_of hb.1)]
      simp only [Int.toNat_natCast, List.length_append, List.length_singleton, ih]
    · rw [if_neg k0, ← ih, e1]
      by_cases k4 : k = 4
      · subst k4
        rw [rings_same hv (by omega)]; simp
      · obtain ⟨A, m, h1, _, _, _, _, h2⟩ := rings_line h hv (by omega) (by omega) (by omega)
        rw [h2]
        simp only [Int.toNat_natCast] at h1
        rw [h1]; simp
theorem ring1_area {q : Pt} : areaE (ringE [q]) = 0 := by
  simp only [ringE, areaE, List.drop_succ_cons, List.drop_nil, List.take_succ_cons, List.take_zero, List.nil_append, List.zip_cons_cons, List.zip_nil_right, List.map_cons, List.map_nil, List.sum_cons, List.sum_nil]
  rw [Int.mul_comm q.y]; omega
theorem areaE_app (a b : List Edge) : areaE (a ++ b) = areaE a + areaE b := by simp [areaE]
theorem moves_area : ∀ p : List Verb, (∀ v ∈ p, v.k = 0 ∧ v.ps.length = 1) → areaE (edgesOf (p.map (·.ps))) = 0
  | [], _ => rfl
  | v :: r, h => by
    have h1 := (h v (by simp)).2
    have h2 := moves_area r fun q hq => h q (by simp [hq])
    obtain ⟨a, ha⟩ : ∃ a, v.ps = [a] := List.length_eq_one_iff.1 h1
    have e : edgesOf ((v :: r).map (·.ps)) = ringE [a] ++ edgesOf (r.map (·.ps)) := by simp [edgesOf, ha]
    rw [e, areaE_app, h2, ring1_area]; rfl
theorem moves_area2 {p : List Verb} (h : vPath p = true) : areaR (ringsV (movesOf p)) = 0 := by
  rw [ringsV_yes (moves_vp h), rings_moves h]
  unfold areaR
  split
  · exact moves_area _ (moves_one h)
  · rfl
theorem moves_ring {p : List Verb} {i : Nat} {r : List Pt} (h : vPath p = true) (hr : (ringsV (movesOf p))[i]? = some r) : r.length = 1 := by
  rw [ringsV_yes (moves_vp h), rings_moves h] at hr
  obtain ⟨v, hv, rfl⟩ := List.mem_map.1 (List.mem_of_getElem? hr)
  exact (moves_one h v hv).2
theorem moves_many {p : List Verb} (h : vPath p = true) : (ringsV (movesOf p)).length = (ringsV p).length := by
  have h1 := rings_num h p.length (Nat.le_refl _)
  rw [List.take_length] at h1
  rw [ringsV_yes (moves_vp h), rings_moves h, ringsV_yes h, h1, List.length_map]
def tb7 : Nat → Option VE.Spec := tabOf [(28, wkIn spDRO), (29, wkIn spRO), (31, wkIn spRO), (30, wkIn spEqR), (32, wkIn spVPath), (33, wkIn spPA)]
theorem tb7_28 : tb7 28 = some (wkIn spDRO) := rfl
theorem tb7_29 : tb7 29 = some (wkIn spRO) := rfl
theorem tb7_31 : tb7 31 = some (wkIn spRO) := rfl
theorem tb7_30 : tb7 30 = some (wkIn spEqR) := rfl
theorem tb7_32 : tb7 32 = some (wkIn spVPath) := rfl
theorem tb7_33 : tb7 33 = some (wkIn spPA) := rfl
theorem tb7_ok : TabOK Try.prog rt0 tb7 := (tabOf_cons (by kernel_rfl) sat_spec_DrawRingsOf (tabOf_cons (by kernel_rfl) sat_impl_RingsOf (tabOf_cons (by kernel_rfl) sat_spec_RingsOf (tabOf_cons (by kernel_rfl) sat_laws_equalRings (tabOf_cons (by kernel_rfl) sat_impl_ValidPath (tabOf_cons (by kernel_rfl) sat_impl_PathArea tabOf_nil))))))
set_option maxHeartbeats 4000000 in
theorem sat_laws_FnRingsOfMoves_0 : Sat Try.prog rt0 7 spLaw := by
  refine fn_sat hm ttok (tab := tb7) tb7_ok Try.func7 (c := Try.f7.body.getD .skip) (by kernel_rfl) (ts := [.tmp 2]) (by kernel_rfl) Try.ntmps7 (sq := fun _ => true) (by kernel_rfl) ?_
  intro args ins pk hpre0 hpk
  obtain ⟨rfl, hpre0⟩ := hpre0
  obtain ⟨code, rfl, hpre, hdec⟩ := famPre_ex hpre0
  clear hpre0 hdec
  try simp only [spLaw_pre] at hpre
  replace hpk : pk + 100000 ≤ pickLimit := hpk
  refine ⟨Nat.le_of_ble_eq_true rfl, ?_⟩
  simp (config := { maxSteps := 1000000 }) only [go_sem, ↓ifP_true, ↓ifP_false, ↓ifP_not, Nat.reduceLT, Nat.reduceAdd, Nat.reduceBEq, Nat.reduceSub, Nat.reduceLeDiff, Nat.reduceEqDiff, Nat.reduceMul, Int.reduceToNat, Int.reduceEq, Int.reduceLT, Int.reduceLE, Int.reduceAdd, Int.reduceSub, Int.reduceMul, reduceCtorEq, cond_true, cond_false, forall_eq', forall_eq, forall_const, implies_true, if_true, if_false, exists_eq_left', exists_eq', exists_eq, ne_eq, Try.f7, tb7_28, tb7_29, tb7_31, tb7_30, tb7_32, tb7_33, spLaw_q, spLaw_A, spLaw_pre, spLaw_post, spDRO_q, spDRO_A, spDRO_pre, spDRO_post, spRO_q, spRO_A, spRO_pre, spRO_post, spEqR_q, spEqR_A, spEqR_pre, spEqR_post, spVPath_q, spVPath_A, spVPath_pre, spVPath_post, spPA_q, spPA_A, spPA_pre, spPA_post]
  repeat' (first | apply And.intro | (intro _) | omega | assumption | with_reducible rfl)
  all_goals try (have h9 := ringsV_len ‹_›; omega)
  any_goals
    rename_i p hp31 hp100 hvp
    have hRl := ringsV_len p
    refine loopS (α := (List Verb) × Int) false [0, 1, 5, 6, 9, 10, 11, 12, 13, 14, 15, 16, 17, 18, 19, 20, 21, 22, 23, 24, 25, 26, 27, 28, 29, 30, 31, 32, 33, 34, 35, 36, 37, 38, 39, 40, 41, 42, 43, 44, 45, 46, 47, 48, 49, 55, 63] (fun σ => [gId (σ.get 5)]) (fun σ x => [(5, .c (.own (gId (σ.get 5)) (x.1).length false)), (6, I x.2)]) (fun σ x => [(gId (σ.get 5), some ⟨(x.1).map vbC, 2, 51, true, false⟩)]) (fun (o, i) => 0) (fun σ => (gL vbCd σ (σ.get 5), gI (σ.get 6))) (fun σ τ => [(gId (σ.get 5), gId (τ.get 5))]) (fun (o, i) => 0 ≤ i ∧ i ≤ p.length ∧ o = movesOf (p.take i.toNat)) (fun (o, i) => (p.length - i).toNat) ⟨by (simp (config := { maxSteps := 1000000 }) only [go_sem, ↓ifP_true, ↓ifP_false, ↓ifP_not, Nat.reduceLT, Nat.reduceAdd, Nat.reduceBEq, Nat.reduceSub, Nat.reduceLeDiff, Nat.reduceEqDiff, Nat.reduceMul, Int.reduceToNat, Int.reduceEq, Int.reduceLT, Int.reduceLE, Int.reduceAdd, Int.reduceSub, Int.reduceMul, reduceCtorEq, cond_true, cond_false, forall_eq', forall_eq, forall_const, implies_true, if_true, if_false, exists_eq_left', exists_eq', exists_eq, ne_eq, Try.f7, tb7_28, tb7_29, tb7_31, tb7_30, tb7_32, tb7_33, spLaw_q, spLaw_A, spLaw_pre, spLaw_post, spDRO_q, spDRO_A, spDRO_pre, spDRO_post, spRO_q, spRO_A, spRO_pre, spRO_post, spEqR_q, spEqR_A, spEqR_pre, spEqR_post, spVPath_q, spVPath_A, spVPath_pre, spVPath_post, spPA_q, spPA_A, spPA_pre, spPA_post]; (repeat' (first | apply And.intro | (intro _) | omega | assumption | with_reducible rfl)); all_goals (first | rfl)), ?_⟩
    rintro ⟨o, i⟩ hinv
    try dsimp only at hinv
    rcases elemAt p i (by omega) with ⟨hlt, v, hk⟩ | hlt
    all_goals (first | ((have hlt2 := of_eq_true hlt); (have hS := moves_snoc hk hinv.1); (have hO := moves_len (p.take i.toNat)); (rw [← hinv.2.2, List.length_take] at hO); all_goals simp (config := { maxSteps := 1000000 }) only [go_sem, ↓ifP_true, ↓ifP_false, ↓ifP_not, Nat.reduceLT, Nat.reduceAdd, Nat.reduceBEq, Nat.reduceSub, Nat.reduceLeDiff, Nat.reduceEqDiff, Nat.reduceMul, Int.reduceToNat, Int.reduceEq, Int.reduceLT, Int.reduceLE, Int.reduceAdd, Int.reduceSub, Int.reduceMul, reduceCtorEq, cond_true, cond_false, forall_eq', forall_eq, forall_const, implies_true, if_true, if_false, exists_eq_left', exists_eq', exists_eq, ne_eq, Try.f7, tb7_28, tb7_29, tb7_31, tb7_30, tb7_32, tb7_33, spLaw_q, spLaw_A, spLaw_pre, spLaw_post, spDRO_q, spDRO_A, spDRO_pre, spDRO_post, spRO_q, spRO_A, spRO_pre, spRO_post, spEqR_q, spEqR_A, spEqR_pre, spEqR_post, spVPath_q, spVPath_A, spVPath_pre, spVPath_post, spPA_q, spPA_A, spPA_pre, spPA_post, hlt, hk]) | (have hlt2 := of_eq_false hlt; simp (config := { maxSteps := 1000000 }) only [go_sem, ↓ifP_true, ↓ifP_false, ↓ifP_not, Nat.reduceLT, Nat.reduceAdd, Nat.reduceBEq, Nat.reduceSub, Nat.reduceLeDiff, Nat.reduceEqDiff, Nat.reduceMul, Int.reduceToNat, Int.reduceEq, Int.reduceLT, Int.reduceLE, Int.reduceAdd, Int.reduceSub, Int.reduceMul, reduceCtorEq, cond_true, cond_false, forall_eq', forall_eq, forall_const, implies_true, if_true, if_false, exists_eq_left', exists_eq', exists_eq, ne_eq, Try.f7, tb7_28, tb7_29, tb7_31, tb7_30, tb7_32, tb7_33, spLaw_q, spLaw_A, spLaw_pre, spLaw_post, spDRO_q, spDRO_A, spDRO_pre, spDRO_post, spRO_q, spRO_A, spRO_pre, spRO_post, spEqR_q, spEqR_A, spEqR_pre, spEqR_post, spVPath_q, spVPath_A, spVPath_pre, spVPath_post, spPA_q, spPA_A, spPA_pre, spPA_post, hlt]))
    all_goals
    repeat' (first | apply And.intro | (intro _) | omega | assumption | with_reducible rfl)
  all_goals try (have hE : o = movesOf p := (by rw [hinv.2.2, takeA (by omega)]); subst hE; have hml := moves_len p; have hmp := moves_pts p; have hRm := ringsV_len (movesOf p))
  any_goals
    refine loopS (α := Int) false [0, 1, 2, 3, 6, 8, 9, 10, 11, 12, 13, 14, 15, 16, 17, 18, 19, 20, 21, 22, 23, 24, 25, 26, 27, 28, 29, 30, 31, 32, 33, 34, 35, 36, 37, 38, 39, 40, 41, 42, 43, 44, 45, 46, 47, 48, 49, 50, 51, 52, 53, 54, 55, 56, 57, 58, 59, 60, 61, 62, 63] (fun σ => []) (fun σ x => [(8, I x)]) (fun σ x => []) (fun j => 0) (fun σ => gI (σ.get 8)) (fun σ τ => []) (fun j => 0 ≤ j ∧ j ≤ (ringsV (movesOf p)).length) (fun j => ((ringsV (movesOf p)).length - j).toNat) ⟨by (simp (config := { maxSteps := 1000000 }) only [go_sem, ↓ifP_true, ↓ifP_false, ↓ifP_not, Nat.reduceLT, Nat.reduceAdd, Nat.reduceBEq, Nat.reduceSub, Nat.reduceLeDiff, Nat.reduceEqDiff, Nat.reduceMul, Int.reduceToNat, Int.reduceEq, Int.reduceLT, Int.reduceLE, Int.reduceAdd, Int.reduceSub, Int.reduceMul, reduceCtorEq, cond_true, cond_false, forall_eq', forall_eq, forall_const, implies_true, if_true, if_false, exists_eq_left', exists_eq', exists_eq, ne_eq, Try.f7, tb7_28, tb7_29, tb7_31, tb7_30, tb7_32, tb7_33, spLaw_q, spLaw_A, spLaw_pre, spLaw_post, spDRO_q, spDRO_A, spDRO_pre, spDRO_post, spRO_q, spRO_A, spRO_pre, spRO_post, spEqR_q, spEqR_A, spEqR_pre, spEqR_post, spVPath_q, spVPath_A, spVPath_pre, spVPath_post, spPA_q, spPA_A, spPA_pre, spPA_post]; (repeat' (first | apply And.intro | (intro _) | omega | assumption | with_reducible rfl))), ?_⟩
    rintro j hinv
    try dsimp only at hinv
    rcases elemAt (ringsV (movesOf p)) j (by omega) with ⟨hlt, r, hk⟩ | hlt
    all_goals (first | ((have hlt2 := of_eq_true hlt); (have hR := moves_ring hvp hk); all_goals simp (config := { maxSteps := 1000000 }) only [go_sem, ↓ifP_true, ↓ifP_false, ↓ifP_not, Nat.reduceLT, Nat.reduceAdd, Nat.reduceBEq, Nat.reduceSub, Nat.reduceLeDiff, Nat.reduceEqDiff, Nat.reduceMul, Int.reduceToNat, Int.reduceEq, Int.reduceLT, Int.reduceLE, Int.reduceAdd, Int.reduceSub, Int.reduceMul, reduceCtorEq, cond_true, cond_false, forall_eq', forall_eq, forall_const, implies_true, if_true, if_false, exists_eq_left', exists_eq', exists_eq, ne_eq, Try.f7, tb7_28, tb7_29, tb7_31, tb7_30, tb7_32, tb7_33, spLaw_q, spLaw_A, spLaw_pre, spLaw_post, spDRO_q, spDRO_A, spDRO_pre, spDRO_post, spRO_q, spRO_A, spRO_pre, spRO_post, spEqR_q, spEqR_A, spEqR_pre, spEqR_post, spVPath_q, spVPath_A, spVPath_pre, spVPath_post, spPA_q, spPA_A, spPA_pre, spPA_post, hlt, hk]) | (have hlt2 := of_eq_false hlt; simp (config := { maxSteps := 1000000 }) only [go_sem, ↓ifP_true, ↓ifP_false, ↓ifP_not, Nat.reduceLT, Nat.reduceAdd, Nat.reduceBEq, Nat.reduceSub, Nat.reduceLeDiff, Nat.reduceEqDiff, Nat.reduceMul, Int.reduceToNat, Int.reduceEq, Int.reduceLT, Int.reduceLE, Int.reduceAdd, Int.reduceSub, Int.reduceMul, reduceCtorEq, cond_true, cond_false, forall_eq', forall_eq, forall_const, implies_true, if_true, if_false, exists_eq_left', exists_eq', exists_eq, ne_eq, Try.f7, tb7_28, tb7_29, tb7_31, tb7_30, tb7_32, tb7_33, spLaw_q, spLaw_A, spLaw_pre, spLaw_post, spDRO_q, spDRO_A, spDRO_pre, spDRO_post, spRO_q, spRO_A, spRO_pre, spRO_post, spEqR_q, spEqR_A, spEqR_pre, spEqR_post, spVPath_q, spVPath_A, spVPath_pre, spVPath_post, spPA_q, spPA_A, spPA_pre, spPA_post, hlt]))
    all_goals
    repeat' (first | apply And.intro | (intro _) | omega | assumption | with_reducible rfl)
  all_goals (first | ((rw [hS, if_pos ‹_›, hinv.2.2]); done) | ((rw [hS, if_neg ‹_›, hinv.2.2]); done) | (exact moves_area2 hvp; done) | ((rw [moves_many hvp, moves_area2 hvp]; simp); done) | (omega; done) | ((have h9 := moves_many hvp; omega); done) | (simp_all; done))
theorem sat_laws_FnRingsOfMoves : Sat Try.prog rt0 7 (wkIn spLaw) := sat_in sat_laws_FnRingsOfMoves_0
end Go.Proofs.Ytjjmjidchehffaa
