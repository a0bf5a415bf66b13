/- Contracts of functions of the program vectorraster, each proved for all states that fit its description. No conditions. -/
import Derived.Test.YtofelomoieamoaaQ1A4
import Derived.Test.YtofelomoieamoaaQ1A2
import Derived.Test.YtofelomoieamoaaKK
set_option maxRecDepth 100000
set_option linter.unusedSimpArgs false
set_option linter.unusedVariables false
namespace Go.Proofs.Ytofelomoieamoaa
open Go Go.VE
theorem rn_set (o : List Rn) (n : Nat) (k : Rn) : (List.map rnC o).set n (rnC k) = List.map rnC (o.set n k) := by rw [List.map_set]
theorem rF_mb {l : List Colr} {k : Nat} {r : Rn} (h : (rF l)[k]? = some r) : 1 ≤ r.m ∧ r.m ≤ l.length := by
  have h1 := isR_at (rF_is l) h
  have h2 := rX_le (rF l) (k + 1)
  rw [rX_take h, rF_x, List.length_append, List.length_replicate] at h2
  omega
theorem rF_len2 {l : List Colr} (i : Nat) : (rF (l.take i)).length ≤ l.length := by
  have := rF_len (l.take i); rw [List.length_take] at this; omega
theorem runs_a {f : Frm} {o : List Rn} {i : Int} {c : Colr} {r : Rn} (h0 : 0 ≤ i) (hk : f.px[i.toNat]? = some c) (ho : o = rF (f.px.take i.toNat)) (hr : o[((o.length : Int) - 1).toNat]? = some r) (hn : 0 < (o.length : Int)) (hc : r.c = c) : o.set ((o.length : Int) - 1).toNat ⟨r.c, r.m + 1⟩ = rF (f.px.take (i + 1).toNat) := by
  rw [show (i + 1).toNat = i.toNat + 1 by omega, rF_snoc_take hk, ← ho]
  exact (rStep_same hr (by omega) hc).symm
theorem runs_a2 {f : Frm} {o : List Rn} {i : Int} {c : Colr} {r q : Rn} (h0 : 0 ≤ i) (hk : f.px[i.toNat]? = some c) (ho : o = rF (f.px.take i.toNat)) (hr : o[((o.length : Int) - 1).toNat]? = some r) (hq : o[((o.length : Int) - 1).toNat]? = some q) (hn : 0 < (o.length : Int)) (hc : r.c = c) : o.set ((o.length : Int) - 1).toNat ⟨r.c, q.m + 1⟩ = rF (f.px.take (i + 1).toNat) := by
  rw [hr] at hq; obtain rfl := Option.some.inj hq; exact runs_a h0 hk ho hr hn hc
theorem runs_a3 {f : Frm} {o : List Rn} {i : Int} {c : Colr} {r q p : Rn} (h0 : 0 ≤ i) (hk : f.px[i.toNat]? = some c) (ho : o = rF (f.px.take i.toNat)) (hc : p.c = c) (hp : o[((o.length : Int) - 1).toNat]? = some p) (hr : o[((o.length : Int) - 1).toNat]? = some r) (hq : o[((o.length : Int) - 1).toNat]? = some q) (hn : 0 < (o.length : Int)) : o.set ((o.length : Int) - 1).toNat ⟨r.c, q.m + 1⟩ = rF (f.px.take (i + 1).toNat) := by
  rw [hp] at hq hr; obtain rfl := Option.some.inj hq; obtain rfl := Option.some.inj hr; exact runs_a h0 hk ho hp hn hc
theorem runs_m {f : Frm} {o : List Rn} {i j : Int} {r : Rn} (hl : f.px.length ≤ 1000000000) (ho : o = rF (f.px.take i.toNat)) (hr : o[j.toNat]? = some r) : 1 ≤ r.m ∧ r.m ≤ 1000000000 := by
  subst ho
  have h1 := rF_mb hr
  have h2 := List.length_take (i := i.toNat) (l := f.px)
  omega
theorem runs_b {f : Frm} {o : List Rn} {i : Int} {c : Colr} {r : Rn} (h0 : 0 ≤ i) (hk : f.px[i.toNat]? = some c) (ho : o = rF (f.px.take i.toNat)) (hr : o[((o.length : Int) - 1).toNat]? = some r) (hn : 0 < (o.length : Int)) (hc : ¬ r.c = c) : o ++ [⟨c, 1⟩] = rF (f.px.take (i + 1).toNat) := by
  rw [show (i + 1).toNat = i.toNat + 1 by omega, rF_snoc_take hk, ← ho]
  exact (rStep_new hr (by omega) hc).symm
theorem runs_c {f : Frm} {o : List Rn} {i : Int} {c : Colr} (h0 : 0 ≤ i) (hk : f.px[i.toNat]? = some c) (ho : o = rF (f.px.take i.toNat)) (hn : ¬ 0 < (o.length : Int)) : o ++ [⟨c, 1⟩] = rF (f.px.take (i + 1).toNat) := by
  rw [show (i + 1).toNat = i.toNat + 1 by omega, rF_snoc_take hk, ← ho]
  exact (rStep_first (by omega)).symm

theorem runs_e {f : Frm} {o : List Rn} {i : Int} (hv : vFrm f = true) (hi : ¬ i < (f.px.length : Int)) (ho : o = rF (f.px.take i.toNat)) : o = rnF f := by
  rw [rn_yes hv, ho, takeA (by omega)]
theorem sp_1i {px : List Colr} {i : Int} {c : Colr} (h0 : 0 ≤ i) (h : px[i.toNat]? = some c) : px.take (i + 1).toNat = px.take i.toNat ++ List.replicate (1 : Int).toNat c := by
  rw [show (i + 1).toNat = i.toNat + 1 by omega]; exact sp_1 h
theorem sp_ini {px : List Colr} {i n : Int} {c d : Colr} (h0 : 0 ≤ i) (h1 : 1 ≤ n) (h : px.take (i + n).toNat = px.take i.toNat ++ List.replicate n.toNat c) (hk : px[(i + n).toNat]? = some d) (e : d = c) : px.take (i + (n + 1)).toNat = px.take i.toNat ++ List.replicate (n + 1).toNat c := by
  subst e
  have e1 : (i + n).toNat = i.toNat + n.toNat := by omega
  have e2 : (i + (n + 1)).toNat = i.toNat + (n.toNat + 1) := by omega
  rw [e1] at h hk
  rw [e2, show (n + 1).toNat = n.toNat + 1 by omega]
  exact sp_in h hk
theorem sp_outi {px : List Colr} {o : List Rn} {i n : Int} {c : Colr} (h0 : 0 ≤ i) (h1 : 1 ≤ n) (hb : bdR px i.toNat) (hi : px[i.toNat]? = some c) (ho : o = rF (px.take i.toNat)) (h : px.take (i + n).toNat = px.take i.toNat ++ List.replicate n.toNat c) : o ++ [⟨c, n⟩] = rF (px.take (i + n).toNat) := by
  have e1 : (i + n).toNat = i.toNat + n.toNat := by omega
  rw [e1] at h ⊢
  rw [sp_out hb hi (by omega) h, ho, show ((n.toNat : Nat) : Int) = n by omega]
theorem sp_bdi {px : List Colr} {i n : Int} {c : Colr} (h0 : 0 ≤ i) (h1 : 1 ≤ n) (hb : bdR px i.toNat) (hi : px[i.toNat]? = some c) (h : px.take (i + n).toNat = px.take i.toNat ++ List.replicate n.toNat c) (hd : ∀ d, px[(i + n).toNat]? = some d → d ≠ c) : bdR px (i + n).toNat := by
  have e1 : (i + n).toNat = i.toNat + n.toNat := by omega
  rw [e1] at h hd ⊢
  exact sp_bd hb hi (by omega) h hd
theorem sp_d1 {px : List Colr} {j : Int} {c d : Colr} (h : px[j.toNat]? = some d) (hn : ¬ d = c) : ∀ e, px[j.toNat]? = some e → e ≠ c := fun e he => by rw [h] at he; exact Option.some.inj he ▸ hn
theorem sp_d2 {px : List Colr} {j : Int} {c : Colr} (h : ¬ j < (px.length : Int)) (h0 : 0 ≤ j) : ∀ e, px[j.toNat]? = some e → e ≠ c := fun e he => by
  have := (List.getElem?_eq_some_iff.1 he).1; omega
def spRuns_A : Frm → List AV
  | f => [.agg (frC f)]
def spRuns_pre : Frm → Prop
  | f => f.px.length ≤ 1000000000
def spRuns_post : Frm → AV → List Box → Prop
  | f, r, bs => r = .c (.own 0 (rnF f).length false) ∧ bs = [⟨(rnF f).map rnC, 5, 46, true, false⟩]
def spRuns : VE.Spec := famSpec spRuns_A d_fr spRuns_pre spRuns_post 0 true
theorem spRuns_q : spRuns.flat = true ∧ spRuns.mt = [] ∧ spRuns.shut = false ∧ spRuns.cost = 0 ∧ (∀ a i, spRuns.pre a i = (i = [] ∧ famPre d_fr spRuns_A spRuns_pre a)) ∧ ∀ a i r b, spRuns.post a i r b = (famPost d_fr spRuns_post a r b) := ⟨rfl, rfl, rfl, rfl, fun _ _ => rfl, fun _ _ _ _ => rfl⟩
def tb23 : Nat → Option VE.Spec := tabOf [(43, wkIn spVFrm), (50, wkIn spClipR)]
theorem tb23_43 : tb23 43 = some (wkIn spVFrm) := rfl
theorem tb23_50 : tb23 50 = some (wkIn spClipR) := rfl
theorem tb23_ok : TabOK Try.prog rt0 tb23 := (tabOf_cons (by kernel_rfl) sat_impl_Frame_valid (tabOf_cons (by kernel_rfl) sat_slices_Clip_impl_Run_impl_Run tabOf_nil))
set_option maxHeartbeats 4000000 in
theorem sat_impl_RunsOf_0 : Sat Try.prog rt0 23 (wkOut spRuns) := by
  refine fn_sat hm ttok (tab := tb23) tb23_ok Try.func23 (c := Try.f23.body.getD .skip) (by kernel_rfl) (ts := [.tmp 2]) (by kernel_rfl) Try.ntmps23 (sq := fun _ => true) (by kernel_rfl) ?_
  intro args ins pk hpre0 hpk
  obtain ⟨rfl, hpre0⟩ := hpre0
  obtain ⟨f, rfl, hpre, hdec⟩ := famPre_ex hpre0
  clear hpre0 hdec
  try simp only [spRuns_pre] at hpre
  replace hpk : pk + 0 ≤ pickLimit := hpk
  refine ⟨Nat.le_of_ble_eq_true rfl, ?_⟩
  simp (config := { maxSteps := 1000000 }) only [go_sem, ↓ifP_true, ↓ifP_false, ↓ifP_not, Nat.reduceLT, Nat.reduceAdd, Nat.reduceBEq, Nat.reduceSub, Nat.reduceLeDiff, Nat.reduceEqDiff, Nat.reduceMul, Int.reduceToNat, Int.reduceEq, Int.reduceLT, Int.reduceLE, Int.reduceAdd, Int.reduceSub, Int.reduceMul, reduceCtorEq, cond_true, cond_false, forall_eq', forall_eq, forall_const, implies_true, if_true, if_false, exists_eq_left', exists_eq', exists_eq, ne_eq, Try.f23, tb23_43, tb23_50, spRuns_q, spRuns_A, spRuns_pre, spRuns_post, spVFrm_q, spVFrm_A, spVFrm_pre, spVFrm_post, spClipR_q, spClipR_A, spClipR_B, spClipR_d, spClipR_pre, spClipR_post, rn_set]
  repeat' (first | apply And.intro | (intro _) | omega | assumption | with_reducible rfl)
  any_goals
    refine loopS (α := (List Rn) × Int) false [0, 1, 3, 4, 5, 6, 7, 8, 9, 10, 13, 14, 15, 16, 17, 18, 19, 20, 21, 22, 23, 24, 25, 26, 27, 28, 29, 30, 31, 32, 33, 34, 35, 36, 37, 38, 39, 40, 41, 42, 43, 44, 45] (fun σ => [gId (σ.get 3)]) (fun σ x => [(3, .c (.own (gId (σ.get 3)) (x.1).length false)), (13, I x.2)]) (fun σ x => [(gId (σ.get 3), some ⟨(x.1).map rnC, 5, 46, true, false⟩)]) (fun (o, i) => 0) (fun σ => (gL rnCd σ (σ.get 3), gI (σ.get 13))) (fun σ τ => [(gId (σ.get 3), gId (τ.get 3))]) (fun (o, i) => (0 ≤ i ∧ i ≤ f.px.length) ∧ o = rF (f.px.take i.toNat)) (fun (o, i) => (f.px.length - i).toNat) ⟨by (simp (config := { maxSteps := 1000000 }) only [go_sem, ↓ifP_true, ↓ifP_false, ↓ifP_not, Nat.reduceLT, Nat.reduceAdd, Nat.reduceBEq, Nat.reduceSub, Nat.reduceLeDiff, Nat.reduceEqDiff, Nat.reduceMul, Int.reduceToNat, Int.reduceEq, Int.reduceLT, Int.reduceLE, Int.reduceAdd, Int.reduceSub, Int.reduceMul, reduceCtorEq, cond_true, cond_false, forall_eq', forall_eq, forall_const, implies_true, if_true, if_false, exists_eq_left', exists_eq', exists_eq, ne_eq, Try.f23, tb23_43, tb23_50, spRuns_q, spRuns_A, spRuns_pre, spRuns_post, spVFrm_q, spVFrm_A, spVFrm_pre, spVFrm_post, spClipR_q, spClipR_A, spClipR_B, spClipR_d, spClipR_pre, spClipR_post, rn_set]; (repeat' (first | apply And.intro | (intro _) | omega | assumption | with_reducible rfl)); all_goals (first | rfl)), ?_⟩
    rintro ⟨o, i⟩ hinv
    try dsimp only at hinv
    rcases elemAt f.px i (by omega) with ⟨hlt, c, hk⟩ | hlt
    all_goals (first | ((have hlt2 := of_eq_true hlt); all_goals simp (config := { maxSteps := 1000000 }) only [go_sem, ↓ifP_true, ↓ifP_false, ↓ifP_not, Nat.reduceLT, Nat.reduceAdd, Nat.reduceBEq, Nat.reduceSub, Nat.reduceLeDiff, Nat.reduceEqDiff, Nat.reduceMul, Int.reduceToNat, Int.reduceEq, Int.reduceLT, Int.reduceLE, Int.reduceAdd, Int.reduceSub, Int.reduceMul, reduceCtorEq, cond_true, cond_false, forall_eq', forall_eq, forall_const, implies_true, if_true, if_false, exists_eq_left', exists_eq', exists_eq, ne_eq, Try.f23, tb23_43, tb23_50, spRuns_q, spRuns_A, spRuns_pre, spRuns_post, spVFrm_q, spVFrm_A, spVFrm_pre, spVFrm_post, spClipR_q, spClipR_A, spClipR_B, spClipR_d, spClipR_pre, spClipR_post, rn_set, hlt, hk]) | (have hlt2 := of_eq_false hlt; simp (config := { maxSteps := 1000000 }) only [go_sem, ↓ifP_true, ↓ifP_false, ↓ifP_not, Nat.reduceLT, Nat.reduceAdd, Nat.reduceBEq, Nat.reduceSub, Nat.reduceLeDiff, Nat.reduceEqDiff, Nat.reduceMul, Int.reduceToNat, Int.reduceEq, Int.reduceLT, Int.reduceLE, Int.reduceAdd, Int.reduceSub, Int.reduceMul, reduceCtorEq, cond_true, cond_false, forall_eq', forall_eq, forall_const, implies_true, if_true, if_false, exists_eq_left', exists_eq', exists_eq, ne_eq, Try.f23, tb23_43, tb23_50, spRuns_q, spRuns_A, spRuns_pre, spRuns_post, spVFrm_q, spVFrm_A, spVFrm_pre, spVFrm_post, spClipR_q, spClipR_A, spClipR_B, spClipR_d, spClipR_pre, spClipR_post, rn_set, hlt]))
    all_goals
      repeat' (first | apply And.intro | (intro _) | omega | assumption | with_reducible rfl)
  
  all_goals (first | (exact runs_a3 hinv.1.1 hk hinv.2 ‹_ = c› ‹_› ‹_› ‹_› ‹_›; done) | (exact runs_a2 hinv.1.1 hk hinv.2 ‹_› ‹_› ‹_› ‹_›; done) | ((have h9 := runs_m hpre hinv.2 ‹_›; omega); done) | (rfl; done) | ((rw [rn_no ‹_›]; rfl); done) | ((rw [rn_no ‹_›]); done) | (exact runs_a hinv.1.1 hk hinv.2 ‹_› ‹_› ‹_›; done) | (exact runs_b hinv.1.1 hk hinv.2 ‹_› ‹_› ‹_›; done) | (exact runs_c hinv.1.1 hk hinv.2 ‹_›; done) | (exact runs_e ‹_› hlt2 hinv.2; done) | ((rw [runs_e ‹vFrm f = true› hlt2 hinv.2]); done) | ((have h7 := (vFrm_parts ‹vFrm f = true›).2.1; have h8 := wh_bd (vFrm_parts ‹vFrm f = true›).1; have h9 := rF_len2 (l := f.px) i.toNat; rw [← hinv.2] at h9; omega); done) | (skip; done))
theorem sat_impl_RunsOf : Sat Try.prog rt0 23 (wkIn spRuns) := sat_in (sat_out sat_impl_RunsOf_0)
end Go.Proofs.Ytofelomoieamoaa
