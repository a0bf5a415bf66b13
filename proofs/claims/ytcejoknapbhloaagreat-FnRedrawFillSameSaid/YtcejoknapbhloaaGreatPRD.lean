/- Contracts of functions of the program vectorraster, each proved for all states that fit its description. No conditions. -/
import Derived.Test.YtcejoknapbhloaaGreatPZ
import Derived.Test.YtcejoknapbhloaaGreatPW
import Derived.Test.YtcejoknapbhloaaGreatPU
import Derived.Test.YtcejoknapbhloaaGreatP7KT
import Derived.Test.YtcejoknapbhloaaGreatPV
set_option linter.unusedSimpArgs false
set_option linter.unusedVariables false
section
set_option maxRecDepth 100000
set_option linter.unusedSimpArgs false
set_option linter.unusedVariables false
namespace Go.Proofs.YtcejoknapbhloaaGreat
open Go Go.VE
def nxt (s : Scn) (a : Int) (f : Fil) : Scn := ⟨s.w, s.h, s.fs.set a.toNat f⟩
theorem nxt_v {s : Scn} {a : Int} {f : Fil} (h : okRp s a f = true) : vScn (nxt s a f) = true := by
  obtain ⟨h1, h2, h3, h4⟩ := rp_parts h
  obtain ⟨g1, g2, g3⟩ := vScn_parts h1
  simp only [vScn, nxt, g1, List.length_set, decide_eq_true g2, Bool.true_and, Bool.and_true, List.all_eq_true]
  intro g hg
  rcases List.mem_or_eq_of_mem_set hg with hg | rfl
  · exact List.all_eq_true.1 g3 g hg
  · exact h4
theorem drawV_lenv {s : Scn} (h : vScn s = true) : ((drawV s).length : Int) = s.w * s.h := by
  have hr := szd_r (vScn_parts h).1
  rw [drawV, if_pos h, pixAll_len, Int.natCast_mul, Int.toNat_of_nonneg (by omega), Int.toNat_of_nonneg (by omega), Int.mul_comm]
theorem drawV_get {s : Scn} (h : vScn s = true) {i : Nat} (hi : (i : Int) < s.w * s.h) : (drawV s)[i]? = some (pixF s.fs ((i : Int) % s.w) ((i : Int) / s.w)) := by
  have hr := szd_r (vScn_parts h).1
  have e : s.h.toNat * s.w.toNat = (s.w * s.h).toNat := by rw [← Int.toNat_mul (by omega) (by omega), Int.mul_comm]
  rw [drawV, if_pos h, pixAll_get _ _ _ _ (by omega) (by rw [e]; omega), Int.natCast_emod, Int.natCast_ediv, Int.toNat_of_nonneg (by omega)]
theorem place_rng {w h : Int} {i : Nat} (hw : 0 < w) (hi : (i : Int) < w * h) : (0 ≤ (i : Int) % w ∧ (i : Int) % w < w) ∧ 0 ≤ (i : Int) / w ∧ (i : Int) / w < h :=
  ⟨⟨Int.emod_nonneg _ (by omega), Int.emod_lt_of_pos _ hw⟩, Int.ediv_nonneg (by omega) (by omega), Int.ediv_lt_of_lt_mul hw (by rw [Int.mul_comm]; exact hi)⟩
theorem hit_tile {s : Scn} (hz : szd s.w s.h = true) {i : Nat} (hi : (i : Int) < s.w * s.h) : hitB s (tile s.w ((i : Int) % s.w) ((i : Int) / s.w)) i = true := by
  have hr := szd_r hz
  obtain ⟨p1, p2⟩ := place_rng (i := i) (show 0 < s.w by omega) hi
  obtain ⟨hT, hb⟩ := tile_box hz p1 p2
  rw [hitB, decide_eq_true_eq]
  have e : tbV s.w s.h (tile s.w ((i : Int) % s.w) ((i : Int) / s.w)) = tbox s.w s.h (tile s.w ((i : Int) % s.w) ((i : Int) / s.w)) := if_pos (isT_lt hz hT.1 hT.2)
  rw [e]
  simp only [inB] at hb
  unfold inStg
  omega
theorem rd_all {s : Scn} {a : Int} {f : Fil} (h : okRp s a f = true) : tilesP (nxt s a f) (drawV s) (dmg s a f) = drawV (nxt s a f) := by
  obtain ⟨h1, h2, h3, h4⟩ := rp_parts h
  have hz := (vScn_parts h1).1
  have hr := szd_r hz
  have hn := nxt_v h
  have hl1 := drawV_lenv h1
  have hl2 := drawV_lenv hn
  obtain ⟨g, hg⟩ : ∃ g, s.fs[a.toNat]? = some g := ⟨_, List.getElem?_eq_getElem (by omega)⟩
  refine List.ext_getElem? fun i => ?_
  rw [tilesP_get]
  by_cases hi : (i : Int) < s.w * s.h
  · obtain ⟨p1, p2⟩ := place_rng (i := i) (show 0 < s.w by omega) hi
    rw [drawV_get h1 hi, drawV_get (s := nxt s a f) hn hi, Option.map_some]
    split
    · rfl
    · rename_i hh
      by_cases he : pixF s.fs ((i : Int) % s.w) ((i : Int) / s.w) = pixF (s.fs.set a.toNat f) ((i : Int) % s.w) ((i : Int) / s.w)
      · rw [he]; rfl
      · have hm := dmg_pix h hg p1 p2 he
        exact absurd (List.any_eq_true.2 ⟨_, hm, hit_tile (s := nxt s a f) hz hi⟩) hh
  · have hl2' : ((drawV (nxt s a f)).length : Int) = s.w * s.h := hl2
    rw [List.getElem?_eq_none (by omega), List.getElem?_eq_none (by omega)]; rfl
theorem rd_same {s : Scn} (h1 : vScn s = true) (ts : List Int) : tilesP s (drawV s) ts = drawV s := by
  have hz := (vScn_parts h1).1
  have hr := szd_r hz
  have hl1 := drawV_lenv h1
  refine List.ext_getElem? fun i => ?_
  rw [tilesP_get]
  by_cases hi : (i : Int) < s.w * s.h
  · rw [drawV_get h1 hi, Option.map_some]
    split <;> rfl
  · rw [List.getElem?_eq_none (by omega)]; rfl
theorem nxt_same {s : Scn} {a : Int} {g : Fil} (hg : s.fs[a.toNat]? = some g) : nxt s a g = s := by
  obtain ⟨hl, rfl⟩ := List.getElem?_eq_some_iff.1 hg
  obtain ⟨w, h, fs⟩ := s
  simp only [nxt, List.set_getElem_self]
def rdF (s : Scn) (a : Int) (f : Fil) : Frm := if okRp s a f = true then ⟨s.w, s.h, drawV (nxt s a f)⟩ else ⟨0, 0, []⟩
theorem rd_yes {s : Scn} {a : Int} {f : Fil} (h : okRp s a f = true) : rdF s a f = ⟨s.w, s.h, drawV (nxt s a f)⟩ := if_pos h
theorem rd_no {s : Scn} {a : Int} {f : Fil} (h : okRp s a f = false) : rdF s a f = ⟨0, 0, []⟩ := if_neg (by rw [h]; decide)
theorem okFs_set2 {l : List Fil} {f : Fil} (h : okFs l) (hf : okF f) (n : Nat) : okFs (l.set n f) := ⟨by rw [List.length_set]; exact h.len, fun g hg => (List.mem_or_eq_of_mem_set hg).elim (h.all g) fun e => e ▸ hf⟩
theorem fl_set2 (o : List Fil) (n : Nat) (k : Fil) : (List.map flC o).set n (flC k) = List.map flC (o.set n k) := by rw [List.map_set]
theorem dmg_isT {s : Scn} {a t : Int} {f : Fil} {i : Nat} (h : okRp s a f = true) (ht : (dmg s a f)[i]? = some t) : isT s.w s.h t = true := by
  have hm := List.mem_of_getElem? ht
  rw [dmg, if_pos h, tsN] at hm
  obtain ⟨j, hj, rfl⟩ := List.mem_map.1 hm
  have := List.mem_range.1 (List.mem_filter.1 hj).1
  exact isT_lt (vScn_parts (rp_parts h).1).1 (by omega) (by omega)
theorem rd_pix {s : Scn} {a : Int} {f : Fil} (h : okRp s a f = true) : pixAll s.fs s.w.toNat s.h.toNat = drawV s := by
  rw [drawV, if_pos (rp_parts h).1]
theorem rd_done {s : Scn} {a i : Int} {f : Fil} {o : List Colr} (h : okRp s a f = true) (hi : (0 ≤ i ∧ i ≤ (dmg s a f).length) ∧ o = tilesP (nxt s a f) (pixAll s.fs s.w.toNat s.h.toNat) ((dmg s a f).take i.toNat)) (hl : ¬ i < (dmg s a f).length) : (⟨s.w, s.h, o⟩ : Frm) = rdF s a f := by
  rw [rd_yes h, hi.2, rd_pix h, List.take_of_length_le (by omega), rd_all h]
theorem rd_len {s : Scn} {a : Int} {f : Fil} {ts : List Int} (h : okRp s a f = true) : ((tilesP (nxt s a f) (drawV s) ts).length : Int) = s.w * s.h := by
  rw [tilesP_len]; exact drawV_lenv (rp_parts h).1
def spRd_A : Scn × Int × Fil → List AV
  | (s, a, f) => [.agg (scC s), I a, .agg (flC f)]
def spRd_pre : Scn × Int × Fil → Prop
  | (s, a, f) => okFs s.fs ∧ okF f
def spRd_post : Scn × Int × Fil → AV → List Box → Prop
  | (s, a, f), r, bs => r = .tup [.agg (frC (rdF s a f)), B (okRp s a f)] ∧ bs = []
def spRd : VE.Spec := famSpecS spRd_A d_sc_i_fl spRd_pre spRd_post 0 false
theorem spRd_q : spRd.flat = false ∧ spRd.mt = [] ∧ spRd.shut = true ∧ spRd.cost = 0 ∧ (∀ a i, spRd.pre a i = (i = [] ∧ famPre d_sc_i_fl spRd_A spRd_pre a)) ∧ ∀ a i r b, spRd.post a i r b = (famPost d_sc_i_fl spRd_post a r b) := ⟨rfl, rfl, rfl, rfl, fun _ _ => rfl, fun _ _ _ _ => rfl⟩
end Go.Proofs.YtcejoknapbhloaaGreat
end
section
set_option maxRecDepth 100000
set_option linter.unusedSimpArgs false
set_option linter.unusedVariables false
namespace Go.Proofs.YtcejoknapbhloaaGreat
open Go Go.VE
def spCloneF_A : (List Fil) → List AV
  | l => [.c (.sl false (l.map flC))]
def spCloneF_pre : (List Fil) → Prop
  | l => l.length ≤ 1000000
def spCloneF_post : (List Fil) → AV → List Box → Prop
  | l, r, bs => r = .c (.own 0 (l).length false) ∧ bs = [⟨(l).map flC, 7, 45, true, false⟩]
def spCloneF : VE.Spec := famSpec spCloneF_A d_lfl spCloneF_pre spCloneF_post 0 false
theorem spCloneF_q : spCloneF.flat = false ∧ spCloneF.mt = [] ∧ spCloneF.shut = false ∧ spCloneF.cost = 0 ∧ (∀ a i, spCloneF.pre a i = (i = [] ∧ famPre d_lfl spCloneF_A spCloneF_pre a)) ∧ ∀ a i r b, spCloneF.post a i r b = (famPost d_lfl spCloneF_post a r b) := ⟨rfl, rfl, rfl, rfl, fun _ _ => rfl, fun _ _ _ _ => rfl⟩
theorem nil_ofF {l : List Fil} {b : Bool} (h : ¬ List.map flC l = [] → b = false) (hb : b = true) : l = [] := by
  by_cases e : List.map flC l = []
  · exact List.map_eq_nil_iff.1 e
  · rw [h e] at hb; cases hb
def tb33 : Nat → Option VE.Spec := tabOf []
theorem tb33_ok : TabOK Tryz.prog rt0 tb33 := tabOf_nil
set_option maxHeartbeats 4000000 in
theorem sat_slices_Clone_impl_Fill_impl_Fill_0 : Sat Tryz.prog rt0 33 (wkOut spCloneF) := by
  refine fn_sat hm ttok (tab := tb33) tb33_ok Tryz.func33 (c := Tryz.f33.body.getD .skip) (by kernel_rfl) (ts := [.tmp 2]) (by kernel_rfl) Tryz.ntmps33 (sq := fun _ => true) (by kernel_rfl) ?_
  intro args ins pk hpre0 hpk
  obtain ⟨rfl, hpre0⟩ := hpre0
  obtain ⟨l, rfl, hpre, hdec⟩ := famPre_ex hpre0
  clear hpre0 hdec
  try simp only [spCloneF_pre] at hpre
  replace hpk : pk + 0 ≤ pickLimit := hpk
  refine ⟨Nat.le_of_ble_eq_true rfl, ?_⟩
  simp (config := { maxSteps := 1000000 }) only [go_sem, ↓ifP_true, ↓ifP_false, ↓ifP_not, Nat.reduceLT, Nat.reduceAdd, Nat.reduceBEq, Nat.reduceSub, Nat.reduceLeDiff, Nat.reduceEqDiff, Nat.reduceMul, Int.reduceToNat, Int.reduceEq, Int.reduceLT, Int.reduceLE, Int.reduceAdd, Int.reduceSub, Int.reduceMul, reduceCtorEq, cond_true, cond_false, forall_eq', forall_eq, forall_const, implies_true, if_true, if_false, exists_eq_left', exists_eq', exists_eq, ne_eq, Tryz.f33, spCloneF_q, spCloneF_A, spCloneF_pre, spCloneF_post]
  repeat' (first | apply And.intro | (intro _) | omega | assumption | with_reducible rfl)
  all_goals (first | ((obtain rfl := nil_ofF (l := l) ‹_› ‹_›; rfl); done))
theorem sat_slices_Clone_impl_Fill_impl_Fill : Sat Tryz.prog rt0 33 (wkIn spCloneF) := sat_in (sat_out sat_slices_Clone_impl_Fill_impl_Fill_0)
def tb13 : Nat → Option VE.Spec := tabOf [(32, wkIn spRpl), (33, wkIn spCloneF), (30, wkIn spDraw), (34, wkIn spDmg), (23, wkIn spFD)]
theorem tb13_32 : tb13 32 = some (wkIn spRpl) := rfl
theorem tb13_33 : tb13 33 = some (wkIn spCloneF) := rfl
theorem tb13_30 : tb13 30 = some (wkIn spDraw) := rfl
theorem tb13_34 : tb13 34 = some (wkIn spDmg) := rfl
theorem tb13_23 : tb13 23 = some (wkIn spFD) := rfl
theorem tb13_ok : TabOK Tryz.prog rt0 tb13 := (tabOf_cons (by kernel_rfl) sat_impl_replaceable (tabOf_cons (by kernel_rfl) sat_slices_Clone_impl_Fill_impl_Fill (tabOf_cons (by kernel_rfl) sat_impl_Scene_draw (tabOf_cons (by kernel_rfl) sat_impl_DamageOf (tabOf_cons (by kernel_rfl) sat_impl_Frame_draw tabOf_nil)))))
set_option maxHeartbeats 4000000 in
theorem sat_impl_RedrawFill_0 : Sat Tryz.prog rt0 13 (wkOut spRd) := by
  refine fn_sat hm ttok (tab := tb13) tb13_ok Tryz.func13 (c := Tryz.f13.body.getD .skip) (by kernel_rfl) (ts := [.cell 6 31, .tmp 7]) (by kernel_rfl) Tryz.ntmps13 (sq := fun id => !(id == 6)) (by kernel_rfl) ?_
  intro args ins pk hpre0 hpk
  obtain ⟨rfl, hpre0⟩ := hpre0
  obtain ⟨⟨s, a, f⟩, rfl, hpre, hdec⟩ := famPre_ex hpre0
  clear hpre0 hdec
  try simp only [spRd_pre] at hpre
  replace hpk : pk + 0 ≤ pickLimit := hpk
  refine ⟨Nat.le_of_ble_eq_true rfl, ?_⟩
  simp (config := { maxSteps := 1000000 }) only [go_sem, ↓ifP_true, ↓ifP_false, ↓ifP_not, Nat.reduceLT, Nat.reduceAdd, Nat.reduceBEq, Nat.reduceSub, Nat.reduceLeDiff, Nat.reduceEqDiff, Nat.reduceMul, Int.reduceToNat, Int.reduceEq, Int.reduceLT, Int.reduceLE, Int.reduceAdd, Int.reduceSub, Int.reduceMul, reduceCtorEq, cond_true, cond_false, forall_eq', forall_eq, forall_const, implies_true, if_true, if_false, exists_eq_left', exists_eq', exists_eq, ne_eq, Tryz.f13, tb13_32, tb13_33, tb13_30, tb13_34, tb13_23, spRd_q, spRd_A, spRd_pre, spRd_post, spRpl_q, spRpl_A, spRpl_pre, spRpl_post, spCloneF_q, spCloneF_A, spCloneF_pre, spCloneF_post, spDraw_q, spDraw_A, spDraw_pre, spDraw_post, spDmg_q, spDmg_A, spDmg_pre, spDmg_post, spFD_q, spFD_A, spFD_B, spFD_d, spFD_pre, spFD_post, fl_set2]
  repeat' (first | apply And.intro | (intro _) | omega | assumption | with_reducible rfl)
  all_goals try (refine drawI (VE.Plan.first 0 (VE.Plan.first 1 (VE.Plan.first 2 (VE.Plan.first 3 (VE.Plan.first 4 (VE.Plan.alt 5 (VE.Plan.first 6 (VE.Plan.alt 7 (VE.Plan.alt 8 VE.Plan.nil VE.Plan.nil) VE.Plan.nil)) (VE.Plan.alt 7 (VE.Plan.alt 5 (VE.Plan.first 6 (VE.Plan.alt 8 VE.Plan.nil VE.Plan.nil)) VE.Plan.nil) VE.Plan.nil))))))) (by decide +kernel) ?_; simp (config := { maxSteps := 1000000 }) only [go_sem, ↓ifP_true, ↓ifP_false, ↓ifP_not, Nat.reduceLT, Nat.reduceAdd, Nat.reduceBEq, Nat.reduceSub, Nat.reduceLeDiff, Nat.reduceEqDiff, Nat.reduceMul, Int.reduceToNat, Int.reduceEq, Int.reduceLT, Int.reduceLE, Int.reduceAdd, Int.reduceSub, Int.reduceMul, reduceCtorEq, cond_true, cond_false, forall_eq', forall_eq, forall_const, implies_true, if_true, if_false, exists_eq_left', exists_eq', exists_eq, ne_eq, planW, stepW, Tryz.f13, tb13_32, tb13_33, tb13_30, tb13_34, tb13_23, spRd_q, spRd_A, spRd_pre, spRd_post, spRpl_q, spRpl_A, spRpl_pre, spRpl_post, spCloneF_q, spCloneF_A, spCloneF_pre, spCloneF_post, spDraw_q, spDraw_A, spDraw_pre, spDraw_post, spDmg_q, spDmg_A, spDmg_pre, spDmg_post, spFD_q, spFD_A, spFD_B, spFD_d, spFD_pre, spFD_post, fl_set2]; repeat' (first | apply And.intro | (intro _) | omega | assumption | with_reducible rfl))
  any_goals
    first | (refine loopS (α := (List Colr) × Int × Bool) false [0, 1, 2, 3, 4, 5, 10, 11, 12, 13, 14, 15, 16, 17, 18, 19, 20, 21, 22, 23, 24, 25, 26, 27, 28, 29, 30, 31, 32, 33, 34, 35, 36, 37, 40, 41, 42, 43, 44, 45, 46, 47, 48] (fun σ => [224, 112]) (fun σ x => [(40, I x.2.1)]) (fun σ x => [(224, some ⟨(x.1).map coC, 4, 66, true, false⟩), (112, some ⟨(s.fs.set a.toNat f).map flC, 7, 45, true, x.2.2⟩)]) (fun (o, i, z) => 0) (fun σ => (gL coCd σ (.c (.own 224 (boxN σ 224).es.length false)), gI (σ.get 40), (boxN σ 112).fz)) (fun σ τ => []) (fun (o, i, z) => (0 ≤ i ∧ i ≤ (dmg s a f).length) ∧ o = tilesP (nxt s a f) (pixAll s.fs s.w.toNat s.h.toNat) ((dmg s a f).take i.toNat)) (fun (o, i, z) => ((dmg s a f).length - i).toNat) ⟨?_, ?_⟩; focus ((simp (config := { maxSteps := 1000000 }) only [go_sem, ↓ifP_true, ↓ifP_false, ↓ifP_not, Nat.reduceLT, Nat.reduceAdd, Nat.reduceBEq, Nat.reduceSub, Nat.reduceLeDiff, Nat.reduceEqDiff, Nat.reduceMul, Int.reduceToNat, Int.reduceEq, Int.reduceLT, Int.reduceLE, Int.reduceAdd, Int.reduceSub, Int.reduceMul, reduceCtorEq, cond_true, cond_false, forall_eq', forall_eq, forall_const, implies_true, if_true, if_false, exists_eq_left', exists_eq', exists_eq, ne_eq, Tryz.f13, tb13_32, tb13_33, tb13_30, tb13_34, tb13_23, spRd_q, spRd_A, spRd_pre, spRd_post, spRpl_q, spRpl_A, spRpl_pre, spRpl_post, spCloneF_q, spCloneF_A, spCloneF_pre, spCloneF_post, spDraw_q, spDraw_A, spDraw_pre, spDraw_post, spDmg_q, spDmg_A, spDmg_pre, spDmg_post, spFD_q, spFD_A, spFD_B, spFD_d, spFD_pre, spFD_post, fl_set2]; (repeat' (first | apply And.intro | (intro _) | omega | assumption | with_reducible rfl)); all_goals (first | rfl)); done)) | (refine loopS (α := (List Colr) × Int × Bool) false [0, 1, 2, 3, 4, 5, 10, 11, 12, 13, 14, 15, 16, 17, 18, 19, 20, 21, 22, 23, 24, 25, 26, 27, 28, 29, 30, 31, 32, 33, 34, 35, 36, 37, 40, 41, 42, 43, 44, 45, 46, 47, 48] (fun σ => [232, 112]) (fun σ x => [(40, I x.2.1)]) (fun σ x => [(232, some ⟨(x.1).map coC, 4, 66, true, false⟩), (112, some ⟨(s.fs.set a.toNat f).map flC, 7, 45, true, x.2.2⟩)]) (fun (o, i, z) => 0) (fun σ => (gL coCd σ (.c (.own 232 (boxN σ 232).es.length false)), gI (σ.get 40), (boxN σ 112).fz)) (fun σ τ => []) (fun (o, i, z) => (0 ≤ i ∧ i ≤ (dmg s a f).length) ∧ o = tilesP (nxt s a f) (pixAll s.fs s.w.toNat s.h.toNat) ((dmg s a f).take i.toNat)) (fun (o, i, z) => ((dmg s a f).length - i).toNat) ⟨?_, ?_⟩; focus ((simp (config := { maxSteps := 1000000 }) only [go_sem, ↓ifP_true, ↓ifP_false, ↓ifP_not, Nat.reduceLT, Nat.reduceAdd, Nat.reduceBEq, Nat.reduceSub, Nat.reduceLeDiff, Nat.reduceEqDiff, Nat.reduceMul, Int.reduceToNat, Int.reduceEq, Int.reduceLT, Int.reduceLE, Int.reduceAdd, Int.reduceSub, Int.reduceMul, reduceCtorEq, cond_true, cond_false, forall_eq', forall_eq, forall_const, implies_true, if_true, if_false, exists_eq_left', exists_eq', exists_eq, ne_eq, Tryz.f13, tb13_32, tb13_33, tb13_30, tb13_34, tb13_23, spRd_q, spRd_A, spRd_pre, spRd_post, spRpl_q, spRpl_A, spRpl_pre, spRpl_post, spCloneF_q, spCloneF_A, spCloneF_pre, spCloneF_post, spDraw_q, spDraw_A, spDraw_pre, spDraw_post, spDmg_q, spDmg_A, spDmg_pre, spDmg_post, spFD_q, spFD_A, spFD_B, spFD_d, spFD_pre, spFD_post, fl_set2]; (repeat' (first | apply And.intro | (intro _) | omega | assumption | with_reducible rfl)); all_goals (first | rfl)); done))
    rintro ⟨o, i, _ | _⟩ hinv
    all_goals
      try dsimp only at hinv
      rcases elemAt (dmg s a f) i (by omega) with ⟨hlt, t, hk⟩ | hlt
      all_goals (first | ((have hlt2 := of_eq_true hlt); all_goals simp (config := { maxSteps := 1000000 }) only [go_sem, ↓ifP_true, ↓ifP_false, ↓ifP_not, Nat.reduceLT, Nat.reduceAdd, Nat.reduceBEq, Nat.reduceSub, Nat.reduceLeDiff, Nat.reduceEqDiff, Nat.reduceMul, Int.reduceToNat, Int.reduceEq, Int.reduceLT, Int.reduceLE, Int.reduceAdd, Int.reduceSub, Int.reduceMul, reduceCtorEq, cond_true, cond_false, forall_eq', forall_eq, forall_const, implies_true, if_true, if_false, exists_eq_left', exists_eq', exists_eq, ne_eq, Tryz.f13, tb13_32, tb13_33, tb13_30, tb13_34, tb13_23, spRd_q, spRd_A, spRd_pre, spRd_post, spRpl_q, spRpl_A, spRpl_pre, spRpl_post, spCloneF_q, spCloneF_A, spCloneF_pre, spCloneF_post, spDraw_q, spDraw_A, spDraw_pre, spDraw_post, spDmg_q, spDmg_A, spDmg_pre, spDmg_post, spFD_q, spFD_A, spFD_B, spFD_d, spFD_pre, spFD_post, fl_set2, hlt, hk]) | (have hlt2 := of_eq_false hlt; simp (config := { maxSteps := 1000000 }) only [go_sem, ↓ifP_true, ↓ifP_false, ↓ifP_not, Nat.reduceLT, Nat.reduceAdd, Nat.reduceBEq, Nat.reduceSub, Nat.reduceLeDiff, Nat.reduceEqDiff, Nat.reduceMul, Int.reduceToNat, Int.reduceEq, Int.reduceLT, Int.reduceLE, Int.reduceAdd, Int.reduceSub, Int.reduceMul, reduceCtorEq, cond_true, cond_false, forall_eq', forall_eq, forall_const, implies_true, if_true, if_false, exists_eq_left', exists_eq', exists_eq, ne_eq, Tryz.f13, tb13_32, tb13_33, tb13_30, tb13_34, tb13_23, spRd_q, spRd_A, spRd_pre, spRd_post, spRpl_q, spRpl_A, spRpl_pre, spRpl_post, spCloneF_q, spCloneF_A, spCloneF_pre, spCloneF_post, spDraw_q, spDraw_A, spDraw_pre, spDraw_post, spDmg_q, spDmg_A, spDmg_pre, spDmg_post, spFD_q, spFD_A, spFD_B, spFD_d, spFD_pre, spFD_post, fl_set2, hlt]))
      all_goals
        have hol : o.length = (pixAll s.fs s.w.toNat s.h.toNat).length := by rw [hinv.2, tilesP_len]
      all_goals
        repeat' (first | apply And.intro | (intro _) | omega | assumption | with_reducible rfl)
      all_goals try (refine drawI (VE.Plan.first 0 (VE.Plan.first 1 (VE.Plan.first 2 (VE.Plan.first 3 (VE.Plan.first 4 (VE.Plan.alt 5 (VE.Plan.first 6 (VE.Plan.alt 7 (VE.Plan.alt 8 VE.Plan.nil VE.Plan.nil) VE.Plan.nil)) (VE.Plan.alt 7 (VE.Plan.alt 5 (VE.Plan.first 6 (VE.Plan.alt 8 VE.Plan.nil VE.Plan.nil)) VE.Plan.nil) VE.Plan.nil))))))) (by decide +kernel) ?_; (first | simp (config := { maxSteps := 1000000 }) only [go_sem, ↓ifP_true, ↓ifP_false, ↓ifP_not, Nat.reduceLT, Nat.reduceAdd, Nat.reduceBEq, Nat.reduceSub, Nat.reduceLeDiff, Nat.reduceEqDiff, Nat.reduceMul, Int.reduceToNat, Int.reduceEq, Int.reduceLT, Int.reduceLE, Int.reduceAdd, Int.reduceSub, Int.reduceMul, reduceCtorEq, cond_true, cond_false, forall_eq', forall_eq, forall_const, implies_true, if_true, if_false, exists_eq_left', exists_eq', exists_eq, ne_eq, planW, stepW, Tryz.f13, tb13_32, tb13_33, tb13_30, tb13_34, tb13_23, spRd_q, spRd_A, spRd_pre, spRd_post, spRpl_q, spRpl_A, spRpl_pre, spRpl_post, spCloneF_q, spCloneF_A, spCloneF_pre, spCloneF_post, spDraw_q, spDraw_A, spDraw_pre, spDraw_post, spDmg_q, spDmg_A, spDmg_pre, spDmg_post, spFD_q, spFD_A, spFD_B, spFD_d, spFD_pre, spFD_post, fl_set2, hlt, hk] | simp (config := { maxSteps := 1000000 }) only [go_sem, ↓ifP_true, ↓ifP_false, ↓ifP_not, Nat.reduceLT, Nat.reduceAdd, Nat.reduceBEq, Nat.reduceSub, Nat.reduceLeDiff, Nat.reduceEqDiff, Nat.reduceMul, Int.reduceToNat, Int.reduceEq, Int.reduceLT, Int.reduceLE, Int.reduceAdd, Int.reduceSub, Int.reduceMul, reduceCtorEq, cond_true, cond_false, forall_eq', forall_eq, forall_const, implies_true, if_true, if_false, exists_eq_left', exists_eq', exists_eq, ne_eq, planW, stepW, Tryz.f13, tb13_32, tb13_33, tb13_30, tb13_34, tb13_23, spRd_q, spRd_A, spRd_pre, spRd_post, spRpl_q, spRpl_A, spRpl_pre, spRpl_post, spCloneF_q, spCloneF_A, spCloneF_pre, spCloneF_post, spDraw_q, spDraw_A, spDraw_pre, spDraw_post, spDmg_q, spDmg_A, spDmg_pre, spDmg_post, spFD_q, spFD_A, spFD_B, spFD_d, spFD_pre, spFD_post, fl_set2]); repeat' (first | apply And.intro | (intro _) | omega | assumption | with_reducible rfl))
    
  all_goals (first | (exact hpre.1; done) | (exact hpre.2; done) | ((have h8 := hpre.1.len; omega); done) | ((have h9 := rp_parts ‹okRp s a f = true›; have h8 := hpre.1.len; omega); done) | (exact (rp_parts ‹okRp s a f = true›).1; done) | (exact okFs_set2 hpre.1 hpre.2 _; done) | (exact nxt_v ‹_›; done) | (exact dmg_isT ‹_› hk; done) | ((rw [rd_no ‹_›]; rfl); done) | (exact ‹okRp s a f = false›.symm; done) | (exact ‹okRp s a f = true›.symm; done) | ((rw [hinv.2, tilesP_step hk hinv.1.1]; rfl); done) | ((rw [hinv.2, tilesP_step hk hinv.1.1]); done) | ((rw [hinv.2, rd_pix ‹okRp s a f = true›]; exact rd_len ‹okRp s a f = true›); done) | ((have h9 := dmg_len s a f; omega); done) | ((rw [← rd_done ‹okRp s a f = true› hinv hlt2]; rfl); done) | (skip; done))
theorem sat_impl_RedrawFill : Sat Tryz.prog rt0 13 (wkIn spRd) := sat_in (sat_out sat_impl_RedrawFill_0)
end Go.Proofs.YtcejoknapbhloaaGreat
end
section
set_option maxRecDepth 100000
set_option linter.unusedSimpArgs false
set_option linter.unusedVariables false
namespace Go.Proofs.YtcejoknapbhloaaGreat
open Go Go.VE
def spWF_A : Scn × Int × Fil → List AV
  | (s, a, f) => [.agg (scC s), I a, .agg (flC f)]
def spWF_pre : Scn × Int × Fil → Prop
  | (s, a, f) => okFs s.fs ∧ okF f ∧ okRp s a f = true
def spWF_post : Scn × Int × Fil → AV → List Box → Prop
  | (s, a, f), r, bs => r = .agg (scC (nxt s a f)) ∧ bs = []
def spWF : VE.Spec := famSpecS spWF_A d_sc_i_fl spWF_pre spWF_post 0 false
theorem spWF_q : spWF.flat = false ∧ spWF.mt = [] ∧ spWF.shut = true ∧ spWF.cost = 0 ∧ (∀ a i, spWF.pre a i = (i = [] ∧ famPre d_sc_i_fl spWF_A spWF_pre a)) ∧ ∀ a i r b, spWF.post a i r b = (famPost d_sc_i_fl spWF_post a r b) := ⟨rfl, rfl, rfl, rfl, fun _ _ => rfl, fun _ _ _ _ => rfl⟩
def tb38 : Nat → Option VE.Spec := tabOf []
theorem tb38_ok : TabOK Tryz.prog rt0 tb38 := tabOf_nil
set_option maxHeartbeats 4000000 in
theorem sat_spec_withFill_0 : Sat Tryz.prog rt0 38 (wkOut spWF) := by
  refine fn_sat hm ttok (tab := tb38) tb38_ok Tryz.func38 (c := Tryz.f38.body.getD .skip) (by kernel_rfl) (ts := [.cell 6 25]) (by kernel_rfl) Tryz.ntmps38 (sq := fun _ => true) (by kernel_rfl) ?_
  intro args ins pk hpre0 hpk
  obtain ⟨rfl, hpre0⟩ := hpre0
  obtain ⟨⟨s, a, f⟩, rfl, hpre, hdec⟩ := famPre_ex hpre0
  clear hpre0 hdec
  try simp only [spWF_pre] at hpre
  replace hpk : pk + 0 ≤ pickLimit := hpk
  refine ⟨Nat.le_of_ble_eq_true rfl, ?_⟩
  simp (config := { maxSteps := 1000000 }) only [go_sem, ↓ifP_true, ↓ifP_false, ↓ifP_not, Nat.reduceLT, Nat.reduceAdd, Nat.reduceBEq, Nat.reduceSub, Nat.reduceLeDiff, Nat.reduceEqDiff, Nat.reduceMul, Int.reduceToNat, Int.reduceEq, Int.reduceLT, Int.reduceLE, Int.reduceAdd, Int.reduceSub, Int.reduceMul, reduceCtorEq, cond_true, cond_false, forall_eq', forall_eq, forall_const, implies_true, if_true, if_false, exists_eq_left', exists_eq', exists_eq, ne_eq, Tryz.f38, spWF_q, spWF_A, spWF_pre, spWF_post, fl_set2]
  repeat' (first | apply And.intro | (intro _) | omega | assumption | with_reducible rfl)
  all_goals (first | ((have h9 := rp_parts hpre.2.2; omega); done) | ((have h9 := hpre.1.len; omega); done) | (rfl; done) | (skip; done))
theorem sat_spec_withFill : Sat Tryz.prog rt0 38 (wkIn spWF) := sat_in (sat_out sat_spec_withFill_0)
end Go.Proofs.YtcejoknapbhloaaGreat
end
section
set_option maxRecDepth 100000
set_option linter.unusedSimpArgs false
set_option linter.unusedVariables false
namespace Go.Proofs.YtcejoknapbhloaaGreat
open Go Go.VE
def tb14 : Nat → Option VE.Spec := tabOf [(24, wkIn spVScn), (35, wkIn spIn), (36, wkIn spVFil), (37, wkIn spDrawS), (38, wkIn spWF), (39, wkIn spDmg2), (29, wkIn spTilP)]
theorem tb14_24 : tb14 24 = some (wkIn spVScn) := rfl
theorem tb14_35 : tb14 35 = some (wkIn spIn) := rfl
theorem tb14_36 : tb14 36 = some (wkIn spVFil) := rfl
theorem tb14_37 : tb14 37 = some (wkIn spDrawS) := rfl
theorem tb14_38 : tb14 38 = some (wkIn spWF) := rfl
theorem tb14_39 : tb14 39 = some (wkIn spDmg2) := rfl
theorem tb14_29 : tb14 29 = some (wkIn spTilP) := rfl
theorem tb14_ok : TabOK Tryz.prog rt0 tb14 := (tabOf_cons (by kernel_rfl) sat_spec_validScene (tabOf_cons (by kernel_rfl) sat_spec_inRange (tabOf_cons (by kernel_rfl) sat_spec_validFill (tabOf_cons (by kernel_rfl) sat_spec_DrawScene (tabOf_cons (by kernel_rfl) sat_spec_withFill (tabOf_cons (by kernel_rfl) sat_spec_damage (tabOf_cons (by kernel_rfl) sat_spec_tilePixels tabOf_nil)))))))
set_option maxHeartbeats 4000000 in
theorem sat_spec_RedrawFill_0 : Sat Tryz.prog rt0 14 (wkOut spRd) := by
  refine fn_sat hm ttok (tab := tb14) tb14_ok Tryz.func14 (c := Tryz.f14.body.getD .skip) (by kernel_rfl) (ts := [.cell 6 31, .tmp 7]) (by kernel_rfl) Tryz.ntmps14 (sq := fun id => !(id == 3)) (by kernel_rfl) ?_
  intro args ins pk hpre0 hpk
  obtain ⟨rfl, hpre0⟩ := hpre0
  obtain ⟨⟨s, a, f⟩, rfl, hpre, hdec⟩ := famPre_ex hpre0
  clear hpre0 hdec
  try simp only [spRd_pre] at hpre
  replace hpk : pk + 0 ≤ pickLimit := hpk
  refine ⟨Nat.le_of_ble_eq_true rfl, ?_⟩
  simp (config := { maxSteps := 1000000 }) only [go_sem, ↓ifP_true, ↓ifP_false, ↓ifP_not, Nat.reduceLT, Nat.reduceAdd, Nat.reduceBEq, Nat.reduceSub, Nat.reduceLeDiff, Nat.reduceEqDiff, Nat.reduceMul, Int.reduceToNat, Int.reduceEq, Int.reduceLT, Int.reduceLE, Int.reduceAdd, Int.reduceSub, Int.reduceMul, reduceCtorEq, cond_true, cond_false, forall_eq', forall_eq, forall_const, implies_true, if_true, if_false, exists_eq_left', exists_eq', exists_eq, ne_eq, Tryz.f14, tb14_24, tb14_35, tb14_36, tb14_37, tb14_38, tb14_39, tb14_29, spRd_q, spRd_A, spRd_pre, spRd_post, spVScn_q, spVScn_A, spVScn_pre, spVScn_post, spIn_q, spIn_A, spIn_pre, spIn_post, spVFil_q, spVFil_A, spVFil_pre, spVFil_post, spDrawS_q, spDrawS_A, spDrawS_pre, spDrawS_post, spWF_q, spWF_A, spWF_pre, spWF_post, spDmg2_q, spDmg2_A, spDmg2_pre, spDmg2_post, spTilP_q, spTilP_A, spTilP_pre, spTilP_post]
  repeat' (first | apply And.intro | (intro _) | omega | assumption | with_reducible rfl)
  all_goals try (refine drawI (VE.Plan.first 0 (VE.Plan.first 1 (VE.Plan.first 2 (VE.Plan.first 3 (VE.Plan.first 4 (VE.Plan.alt 5 (VE.Plan.first 6 (VE.Plan.alt 7 (VE.Plan.alt 8 VE.Plan.nil VE.Plan.nil) VE.Plan.nil)) (VE.Plan.alt 7 (VE.Plan.alt 5 (VE.Plan.first 6 (VE.Plan.alt 8 VE.Plan.nil VE.Plan.nil)) VE.Plan.nil) VE.Plan.nil))))))) (by decide +kernel) ?_; simp (config := { maxSteps := 1000000 }) only [go_sem, ↓ifP_true, ↓ifP_false, ↓ifP_not, Nat.reduceLT, Nat.reduceAdd, Nat.reduceBEq, Nat.reduceSub, Nat.reduceLeDiff, Nat.reduceEqDiff, Nat.reduceMul, Int.reduceToNat, Int.reduceEq, Int.reduceLT, Int.reduceLE, Int.reduceAdd, Int.reduceSub, Int.reduceMul, reduceCtorEq, cond_true, cond_false, forall_eq', forall_eq, forall_const, implies_true, if_true, if_false, exists_eq_left', exists_eq', exists_eq, ne_eq, planW, stepW, Tryz.f14, tb14_24, tb14_35, tb14_36, tb14_37, tb14_38, tb14_39, tb14_29, spRd_q, spRd_A, spRd_pre, spRd_post, spVScn_q, spVScn_A, spVScn_pre, spVScn_post, spIn_q, spIn_A, spIn_pre, spIn_post, spVFil_q, spVFil_A, spVFil_pre, spVFil_post, spDrawS_q, spDrawS_A, spDrawS_pre, spDrawS_post, spWF_q, spWF_A, spWF_pre, spWF_post, spDmg2_q, spDmg2_A, spDmg2_pre, spDmg2_post, spTilP_q, spTilP_A, spTilP_pre, spTilP_post]; repeat' (first | apply And.intro | (intro _) | omega | assumption | with_reducible rfl))
  any_goals
    refine loopS (α := Frm × Int) false [0, 1, 2, 3, 4, 5, 11, 12, 13, 14, 15, 16, 17, 18, 19, 20, 21, 22, 23, 24, 25, 26, 27, 28, 29, 30, 31, 32, 33, 34, 35, 36, 37, 38, 39, 40, 41, 42, 43, 44, 45, 46, 47, 48, 49, 50, 51, 52, 53, 54, 55, 56, 57] (fun σ => [gId (σ.get 8)]) (fun σ x => [(11, I x.2)]) (fun σ x => [(gId (σ.get 8), some ⟨[frC x.1], 3, 31, false, false⟩)]) (fun (p, i) => 0) (fun σ => (gA frCd default (.agg ((boxN σ (gId (σ.get 8))).es.headD [])), gI (σ.get 11))) (fun σ τ => []) (fun (p, i) => (0 ≤ i ∧ i ≤ (dmg s a f).length) ∧ p = ⟨s.w, s.h, tilesP (nxt s a f) (drawV s) ((dmg s a f).take i.toNat)⟩) (fun (p, i) => ((dmg s a f).length - i).toNat) ⟨by (simp (config := { maxSteps := 1000000 }) only [go_sem, ↓ifP_true, ↓ifP_false, ↓ifP_not, Nat.reduceLT, Nat.reduceAdd, Nat.reduceBEq, Nat.reduceSub, Nat.reduceLeDiff, Nat.reduceEqDiff, Nat.reduceMul, Int.reduceToNat, Int.reduceEq, Int.reduceLT, Int.reduceLE, Int.reduceAdd, Int.reduceSub, Int.reduceMul, reduceCtorEq, cond_true, cond_false, forall_eq', forall_eq, forall_const, implies_true, if_true, if_false, exists_eq_left', exists_eq', exists_eq, ne_eq, Tryz.f14, tb14_24, tb14_35, tb14_36, tb14_37, tb14_38, tb14_39, tb14_29, spRd_q, spRd_A, spRd_pre, spRd_post, spVScn_q, spVScn_A, spVScn_pre, spVScn_post, spIn_q, spIn_A, spIn_pre, spIn_post, spVFil_q, spVFil_A, spVFil_pre, spVFil_post, spDrawS_q, spDrawS_A, spDrawS_pre, spDrawS_post, spWF_q, spWF_A, spWF_pre, spWF_post, spDmg2_q, spDmg2_A, spDmg2_pre, spDmg2_post, spTilP_q, spTilP_A, spTilP_pre, spTilP_post]; (repeat' (first | apply And.intro | (intro _) | omega | assumption | with_reducible rfl)); all_goals (first | rfl)), ?_⟩
    rintro ⟨p, i⟩ hinv
    try dsimp only at hinv
    rcases elemAt (dmg s a f) i (by omega) with ⟨hlt, t, hk⟩ | hlt
    all_goals (first | ((have hlt2 := of_eq_true hlt); all_goals simp (config := { maxSteps := 1000000 }) only [go_sem, ↓ifP_true, ↓ifP_false, ↓ifP_not, Nat.reduceLT, Nat.reduceAdd, Nat.reduceBEq, Nat.reduceSub, Nat.reduceLeDiff, Nat.reduceEqDiff, Nat.reduceMul, Int.reduceToNat, Int.reduceEq, Int.reduceLT, Int.reduceLE, Int.reduceAdd, Int.reduceSub, Int.reduceMul, reduceCtorEq, cond_true, cond_false, forall_eq', forall_eq, forall_const, implies_true, if_true, if_false, exists_eq_left', exists_eq', exists_eq, ne_eq, Tryz.f14, tb14_24, tb14_35, tb14_36, tb14_37, tb14_38, tb14_39, tb14_29, spRd_q, spRd_A, spRd_pre, spRd_post, spVScn_q, spVScn_A, spVScn_pre, spVScn_post, spIn_q, spIn_A, spIn_pre, spIn_post, spVFil_q, spVFil_A, spVFil_pre, spVFil_post, spDrawS_q, spDrawS_A, spDrawS_pre, spDrawS_post, spWF_q, spWF_A, spWF_pre, spWF_post, spDmg2_q, spDmg2_A, spDmg2_pre, spDmg2_post, spTilP_q, spTilP_A, spTilP_pre, spTilP_post, hlt, hk]) | (have hlt2 := of_eq_false hlt; simp (config := { maxSteps := 1000000 }) only [go_sem, ↓ifP_true, ↓ifP_false, ↓ifP_not, Nat.reduceLT, Nat.reduceAdd, Nat.reduceBEq, Nat.reduceSub, Nat.reduceLeDiff, Nat.reduceEqDiff, Nat.reduceMul, Int.reduceToNat, Int.reduceEq, Int.reduceLT, Int.reduceLE, Int.reduceAdd, Int.reduceSub, Int.reduceMul, reduceCtorEq, cond_true, cond_false, forall_eq', forall_eq, forall_const, implies_true, if_true, if_false, exists_eq_left', exists_eq', exists_eq, ne_eq, Tryz.f14, tb14_24, tb14_35, tb14_36, tb14_37, tb14_38, tb14_39, tb14_29, spRd_q, spRd_A, spRd_pre, spRd_post, spVScn_q, spVScn_A, spVScn_pre, spVScn_post, spIn_q, spIn_A, spIn_pre, spIn_post, spVFil_q, spVFil_A, spVFil_pre, spVFil_post, spDrawS_q, spDrawS_A, spDrawS_pre, spDrawS_post, spWF_q, spWF_A, spWF_pre, spWF_post, spDmg2_q, spDmg2_A, spDmg2_pre, spDmg2_post, spTilP_q, spTilP_A, spTilP_pre, spTilP_post, hlt]))
    all_goals
      repeat' (first | apply And.intro | (intro _) | omega | assumption | with_reducible rfl)
    all_goals try (refine drawI (VE.Plan.first 0 (VE.Plan.first 1 (VE.Plan.first 2 (VE.Plan.first 3 (VE.Plan.first 4 (VE.Plan.alt 5 (VE.Plan.first 6 (VE.Plan.alt 7 (VE.Plan.alt 8 VE.Plan.nil VE.Plan.nil) VE.Plan.nil)) (VE.Plan.alt 7 (VE.Plan.alt 5 (VE.Plan.first 6 (VE.Plan.alt 8 VE.Plan.nil VE.Plan.nil)) VE.Plan.nil) VE.Plan.nil))))))) (by decide +kernel) ?_; (first | simp (config := { maxSteps := 1000000 }) only [go_sem, ↓ifP_true, ↓ifP_false, ↓ifP_not, Nat.reduceLT, Nat.reduceAdd, Nat.reduceBEq, Nat.reduceSub, Nat.reduceLeDiff, Nat.reduceEqDiff, Nat.reduceMul, Int.reduceToNat, Int.reduceEq, Int.reduceLT, Int.reduceLE, Int.reduceAdd, Int.reduceSub, Int.reduceMul, reduceCtorEq, cond_true, cond_false, forall_eq', forall_eq, forall_const, implies_true, if_true, if_false, exists_eq_left', exists_eq', exists_eq, ne_eq, planW, stepW, Tryz.f14, tb14_24, tb14_35, tb14_36, tb14_37, tb14_38, tb14_39, tb14_29, spRd_q, spRd_A, spRd_pre, spRd_post, spVScn_q, spVScn_A, spVScn_pre, spVScn_post, spIn_q, spIn_A, spIn_pre, spIn_post, spVFil_q, spVFil_A, spVFil_pre, spVFil_post, spDrawS_q, spDrawS_A, spDrawS_pre, spDrawS_post, spWF_q, spWF_A, spWF_pre, spWF_post, spDmg2_q, spDmg2_A, spDmg2_pre, spDmg2_post, spTilP_q, spTilP_A, spTilP_pre, spTilP_post, hlt, hk] | simp (config := { maxSteps := 1000000 }) only [go_sem, ↓ifP_true, ↓ifP_false, ↓ifP_not, Nat.reduceLT, Nat.reduceAdd, Nat.reduceBEq, Nat.reduceSub, Nat.reduceLeDiff, Nat.reduceEqDiff, Nat.reduceMul, Int.reduceToNat, Int.reduceEq, Int.reduceLT, Int.reduceLE, Int.reduceAdd, Int.reduceSub, Int.reduceMul, reduceCtorEq, cond_true, cond_false, forall_eq', forall_eq, forall_const, implies_true, if_true, if_false, exists_eq_left', exists_eq', exists_eq, ne_eq, planW, stepW, Tryz.f14, tb14_24, tb14_35, tb14_36, tb14_37, tb14_38, tb14_39, tb14_29, spRd_q, spRd_A, spRd_pre, spRd_post, spVScn_q, spVScn_A, spVScn_pre, spVScn_post, spIn_q, spIn_A, spIn_pre, spIn_post, spVFil_q, spVFil_A, spVFil_pre, spVFil_post, spDrawS_q, spDrawS_A, spDrawS_pre, spDrawS_post, spWF_q, spWF_A, spWF_pre, spWF_post, spDmg2_q, spDmg2_A, spDmg2_pre, spDmg2_post, spTilP_q, spTilP_A, spTilP_pre, spTilP_post]); repeat' (first | apply And.intro | (intro _) | omega | assumption | with_reducible rfl))
  
  all_goals (first | (exact trivial; done) | ((constructor <;> trivial); done) | (exact hpre.1; done) | (exact hpre.2; done) | ((have h9 := hpre.1.len; omega); done) | ((have h9 := dmg_len s a f; omega); done) | (exact (rp_of ‹vScn s = true› (by omega) (by omega) ‹vFil f = true›); done) | (exact okFs_set2 hpre.1 hpre.2 _; done) | (exact nxt_v (rp_of ‹vScn s = true› (by omega) (by omega) ‹vFil f = true›); done) | ((show isT s.w s.h t = true; exact dmg_isT (rp_of ‹vScn s = true› (by omega) (by omega) ‹vFil f = true›) hk); done) | ((rw [hinv.2]; exact rd_len (rp_of ‹vScn s = true› (by omega) (by omega) ‹vFil f = true›)); done) | ((rw [hinv.2]); done) | ((rw [hinv.2, tilesP_step hk hinv.1.1]); done) | ((rw [rd_yes (rp_of ‹vScn s = true› (by omega) (by omega) ‹vFil f = true›), hinv.2, List.take_of_length_le (by omega), rd_all (rp_of ‹vScn s = true› (by omega) (by omega) ‹vFil f = true›)]); done) | (exact ((rp_of ‹vScn s = true› (by omega) (by omega) ‹vFil f = true›)).symm; done) | ((rw [rd_no (rp_n1 ‹_›)]; rfl); done) | (exact (rp_n1 ‹_›).symm; done) | ((rw [rd_no (rp_n2 ‹_›)]; rfl); done) | (exact (rp_n2 ‹_›).symm; done) | ((rw [rd_no (rp_n3 ‹_›)]; rfl); done) | (exact (rp_n3 ‹_›).symm; done) | (skip; done))
theorem sat_spec_RedrawFill : Sat Tryz.prog rt0 14 (wkIn spRd) := sat_in (sat_out sat_spec_RedrawFill_0)
end Go.Proofs.YtcejoknapbhloaaGreat
end
section
set_option maxRecDepth 100000
set_option linter.unusedSimpArgs false
set_option linter.unusedVariables false
namespace Go.Proofs.YtcejoknapbhloaaGreat
open Go Go.VE
def tb12 : Nat → Option VE.Spec := tabOf [(31, wkIn spDDm)]
theorem tb12_31 : tb12 31 = some (wkIn spDDm) := rfl
theorem tb12_ok : TabOK Tryz.prog rt0 tb12 := (tabOf_cons (by kernel_rfl) sat_spec_DrawDamageOf tabOf_nil)
set_option maxHeartbeats 4000000 in
theorem sat_spec_DrawRedrawFill_0 : Sat Tryz.prog rt0 12 (wkOut spDDm) := by
  refine fn_sat hm ttok (tab := tb12) tb12_ok Tryz.func12 (c := Tryz.f12.body.getD .skip) (by kernel_rfl) (ts := [.cell 2 25, .tmp 3, .cell 4 45]) (by kernel_rfl) Tryz.ntmps12 (sq := fun _ => true) (by kernel_rfl) ?_
  intro args ins pk hpre0 hpk
  obtain ⟨rfl, hpre0⟩ := hpre0
  obtain ⟨code, rfl, hpre, hdec⟩ := famPre_ex hpre0
  clear hpre0 hdec
  try simp only [spDDm_pre] at hpre
  replace hpk : pk + 1800 ≤ pickLimit := hpk
  refine ⟨Nat.le_of_ble_eq_true rfl, ?_⟩
  simp (config := { maxSteps := 1000000 }) only [go_sem, ↓ifP_true, ↓ifP_false, ↓ifP_not, Nat.reduceLT, Nat.reduceAdd, Nat.reduceBEq, Nat.reduceSub, Nat.reduceLeDiff, Nat.reduceEqDiff, Nat.reduceMul, Int.reduceToNat, Int.reduceEq, Int.reduceLT, Int.reduceLE, Int.reduceAdd, Int.reduceSub, Int.reduceMul, reduceCtorEq, cond_true, cond_false, forall_eq', forall_eq, forall_const, implies_true, if_true, if_false, exists_eq_left', exists_eq', exists_eq, ne_eq, Tryz.f12, tb12_31, spDDm_q, spDDm_A, spDDm_pre, spDDm_post]
  repeat' (first | apply And.intro | (intro _) | omega | assumption | with_reducible rfl)
  all_goals (first | (exact hpre; done) | (trivial; done) | (assumption; done) | (exact ⟨_, _, _, rfl, rfl, rfl, ‹okScn _›, ‹okF _›, by omega, by omega⟩; done) | (exact ⟨_, _, _, rfl, rfl, rfl, rfl, ‹okScn _›, ‹okF _›, by omega, by omega⟩; done) | (exact ⟨_, _, _, rfl, rfl, ‹okScn _›, ‹okF _›, by omega, by omega⟩; done))
theorem sat_spec_DrawRedrawFill : Sat Tryz.prog rt0 12 (wkIn spDDm) := sat_in (sat_out sat_spec_DrawRedrawFill_0)
end Go.Proofs.YtcejoknapbhloaaGreat
end
