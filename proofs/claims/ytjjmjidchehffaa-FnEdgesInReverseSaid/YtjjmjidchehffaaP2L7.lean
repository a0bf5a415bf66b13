/- Contracts of functions of the program vectorraster, each proved for all states that fit its description. No conditions. -/
import Derived.Test.YtjjmjidchehffaaPJ
import Derived.Test.YtjjmjidchehffaaPH
set_option maxRecDepth 100000
set_option linter.unusedSimpArgs false
set_option linter.unusedVariables false
namespace Go.Proofs.Ytjjmjidchehffaa
open Go Go.VE
theorem touch_rev2 {L : List (List Pt)} {w h t : Int} : (if edOk (revL L) w h t = true then touchE (revL L) (tbox w h t) else []).length = (if edOk L w h t = true then touchE L (tbox w h t) else []).length := by
  have e : edOk (revL L) w h t = edOk L w h t := by simp only [edOk, vRings_rev]
  rw [e]
  by_cases hh : edOk L w h t = true
  · rw [if_pos hh, if_pos hh]; exact touch_rev _ _
  · rw [if_neg hh, if_neg hh]
theorem ed_len (L : List (List Pt)) (w h t : Int) : (if edOk L w h t = true then touchE L (tbox w h t) else []).length ≤ 200 := by
  split
  · rename_i hh
    simp only [edOk, Bool.and_eq_true] at hh
    exact touch_len hh.1 _
  · simp
theorem ed_sub (L : List (List Pt)) (w h t : Int) : ∀ e ∈ (if edOk L w h t = true then touchE L (tbox w h t) else []), e ∈ edgesOf L ∧ e.p.y ≠ e.q.y := by
  intro e he
  split at he
  · simp only [touchE, List.mem_filter, hits, decide_eq_true_eq] at he
    exact ⟨he.1, he.2.1⟩
  · cases he
theorem mem_step {A : List Edge} {r : List Pt} {k : Int} {p q : Pt} {e : Edge} (hp : r[k.toNat]? = some p) (hq : r[((k + 1).tmod r.length).toNat]? = some q) (h0 : 0 ≤ k) : e ∈ A ++ (ringE r).take (k + 1).toNat ↔ e ∈ A ++ (ringE r).take k.toNat ∨ e = ⟨p, q⟩ := by
  rw [ringE_step hp hq h0]
  simp only [List.mem_append, List.mem_singleton, or_assoc]
theorem ring_next {r : List Pt} {k : Int} {p : Pt} (hp : r[k.toNat]? = some p) (h0 : 0 ≤ k) : ∃ q, r[((k + 1).tmod r.length).toNat]? = some q := by
  have hl := (List.getElem?_eq_some_iff.1 hp).1
  have hb := tmod_lt (a := k + 1) (n := r.length) (by omega) (by omega)
  exact ⟨_, List.getElem?_eq_getElem (by omega)⟩
theorem mem_more {A : List Edge} {r : List Pt} {k : Int} {p : Pt} {e : Edge} {sm : Bool} (hs : sm = decide (e ∈ A ++ (ringE r).take k.toNat)) (hsm : sm = true) (hp : r[k.toNat]? = some p) (h0 : 0 ≤ k) : true = decide (e ∈ A ++ (ringE r).take (k + 1).toNat) := by
  obtain ⟨q, hq⟩ := ring_next hp h0
  rw [hsm] at hs
  exact (decide_eq_true ((mem_step hp hq h0).2 (.inl (of_decide_eq_true hs.symm)))).symm
theorem mem_this {A : List Edge} {r : List Pt} {k : Int} {p q : Pt} {e : Edge} {sm : Bool} (hs : sm = decide (e ∈ A ++ (ringE r).take k.toNat)) (hsm : sm = false) (hp : r[k.toNat]? = some p) (hq : r[((k + 1).tmod r.length).toNat]? = some q) (h0 : 0 ≤ k) (hpe : p = e.p) : decide (q = e.q) = decide (e ∈ A ++ (ringE r).take (k + 1).toNat) := by
  rw [hsm] at hs
  have hn := of_decide_eq_false hs.symm
  rw [decide_eq_decide, mem_step hp hq h0]
  exact ⟨fun h => .inr (by rw [hpe, h]), fun h => h.elim (fun h => absurd h hn) fun h => by rw [h]⟩
theorem mem_none {A : List Edge} {r : List Pt} {k : Int} {p : Pt} {e : Edge} {sm : Bool} (hs : sm = decide (e ∈ A ++ (ringE r).take k.toNat)) (hsm : sm = false) (hp : r[k.toNat]? = some p) (h0 : 0 ≤ k) (hpe : ¬ p = e.p) : false = decide (e ∈ A ++ (ringE r).take (k + 1).toNat) := by
  obtain ⟨q, hq⟩ := ring_next hp h0
  rw [hsm] at hs
  have hn := of_decide_eq_false hs.symm
  refine (decide_eq_false fun h => ?_).symm
  rcases (mem_step hp hq h0).1 h with h | h
  · exact hn h
  · exact hpe (by rw [h])
def tb10 : Nat → Option VE.Spec := tabOf [(18, wkIn spDEI), (19, wkIn spEdIn), (21, wkIn spEdIn), (20, wkIn spEqE), (37, wkIn spRev)]
theorem tb10_18 : tb10 18 = some (wkIn spDEI) := rfl
theorem tb10_19 : tb10 19 = some (wkIn spEdIn) := rfl
theorem tb10_21 : tb10 21 = some (wkIn spEdIn) := rfl
theorem tb10_20 : tb10 20 = some (wkIn spEqE) := rfl
theorem tb10_37 : tb10 37 = some (wkIn spRev) := rfl
theorem tb10_ok : TabOK Try.prog rt0 tb10 := (tabOf_cons (by kernel_rfl) sat_spec_DrawEdgesIn (tabOf_cons (by kernel_rfl) sat_impl_EdgesIn (tabOf_cons (by kernel_rfl) sat_spec_EdgesIn (tabOf_cons (by kernel_rfl) sat_laws_equalEdges (tabOf_cons (by kernel_rfl) sat_laws_reversed tabOf_nil)))))
set_option maxHeartbeats 4000000 in
theorem sat_laws_FnEdgesInReverse_0 : Sat Try.prog rt0 10 spLaw := by
  refine fn_sat hm ttok (tab := tb10) tb10_ok Try.func10 (c := Try.f10.body.getD .skip) (by kernel_rfl) (ts := [.tmp 2]) (by kernel_rfl) Try.ntmps10 (sq := fun _ => true) (by kernel_rfl) ?_
  intro args ins pk hpre0 hpk
  obtain ⟨rfl, hpre0⟩ := hpre0
  obtain ⟨code, rfl, hpre, hdec⟩ := famPre_ex hpre0
  clear hpre0 hdec
  try simp only [spLaw_pre] at hpre
  replace hpk : pk + 100000 ≤ pickLimit := hpk
  refine ⟨Nat.le_of_ble_eq_true rfl, ?_⟩
  simp (config := { maxSteps := 1000000 }) only [go_sem, ↓ifP_true, ↓ifP_false, ↓ifP_not, Nat.reduceLT, Nat.reduceAdd, Nat.reduceBEq, Nat.reduceSub, Nat.reduceLeDiff, Nat.reduceEqDiff, Nat.reduceMul, Int.reduceToNat, Int.reduceEq, Int.reduceLT, Int.reduceLE, Int.reduceAdd, Int.reduceSub, Int.reduceMul, reduceCtorEq, cond_true, cond_false, forall_eq', forall_eq, forall_const, implies_true, if_true, if_false, exists_eq_left', exists_eq', exists_eq, ne_eq, Try.f10, tb10_18, tb10_19, tb10_21, tb10_20, tb10_37, spLaw_q, spLaw_A, spLaw_pre, spLaw_post, spDEI_q, spDEI_A, spDEI_pre, spDEI_post, spEdIn_q, spEdIn_A, spEdIn_pre, spEdIn_post, spEqE_q, spEqE_A, spEqE_pre, spEqE_post, spRev_q, spRev_A, spRev_pre, spRev_post]
  repeat' (first | apply And.intro | (intro _) | omega | assumption | with_reducible rfl)
  all_goals (first | (exact Nat.le_trans (ed_len _ _ _ _) (by decide); done) | ((have := ed_len ‹List (List Pt)› _ _ _; omega); done) | ((rw [revL_len]; omega); done) | ((rw [revL_total]; omega); done) | ((rw [touch_rev2]); done))
theorem sat_laws_FnEdgesInReverse : Sat Try.prog rt0 10 (wkIn spLaw) := sat_in sat_laws_FnEdgesInReverse_0
end Go.Proofs.Ytjjmjidchehffaa
