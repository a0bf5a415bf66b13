/- Contracts of functions of the program vectorraster, each proved for all states that fit its description. No conditions. -/
import Derived.Test.YtcejoknapbhloaaGreatPR
import Derived.Test.YtcejoknapbhloaaGreatPY
import Derived.Test.YtcejoknapbhloaaGreatPT
import Derived.Test.YtcejoknapbhloaaGreatP7GO
set_option linter.unusedSimpArgs false
set_option linter.unusedVariables false
section
set_option maxRecDepth 100000
set_option linter.unusedSimpArgs false
set_option linter.unusedVariables false
namespace Go.Proofs.YtcejoknapbhloaaGreat
open Go Go.VE
def spDDm_A : (List UInt8) → List AV
  | code => [.c (.sl false (byC code))]
def spDDm_pre : (List UInt8) → Prop
  | code => code.length ≤ 1048576
def spDDm_post : (List UInt8) → AV → List Box → Prop
  | code, r, bs => ∃ (s : Scn) (a : Int) (f : Fil), r = .tup [.agg (scC s), I a, .agg (flC f)] ∧ bs = [] ∧ okScn s ∧ okF f ∧ -1 ≤ a ∧ a ≤ 10
def spDDm : VE.Spec := famSpecS spDDm_A d_ly spDDm_pre spDDm_post 1800 false
theorem spDDm_q : spDDm.flat = false ∧ spDDm.mt = [] ∧ spDDm.shut = true ∧ spDDm.cost = 1800 ∧ (∀ a i, spDDm.pre a i = (i = [] ∧ famPre d_ly spDDm_A spDDm_pre a)) ∧ ∀ a i r b, spDDm.post a i r b = (famPost d_ly spDDm_post a r b) := ⟨rfl, rfl, rfl, rfl, fun _ _ => rfl, fun _ _ _ _ => rfl⟩
def tb31 : Nat → Option VE.Spec := tabOf [(15, wkIn spNew), (16, wkIn spAScn), (40, wkIn spOne), (43, wkIn spAFil)]
theorem tb31_15 : tb31 15 = some (wkIn spNew) := rfl
theorem tb31_16 : tb31 16 = some (wkIn spAScn) := rfl
theorem tb31_40 : tb31 40 = some (wkIn spOne) := rfl
theorem tb31_43 : tb31 43 = some (wkIn spAFil) := rfl
theorem tb31_ok : TabOK Tryz.prog rt0 tb31 := (tabOf_cons (by kernel_rfl) sat_spec_newReader (tabOf_cons (by kernel_rfl) sat_spec_anyScene (tabOf_cons (by kernel_rfl) sat_spec_reader_one (tabOf_cons (by kernel_rfl) sat_spec_anyFill tabOf_nil))))
set_option maxHeartbeats 4000000 in
theorem sat_spec_DrawDamageOf_0 : Sat Tryz.prog rt0 31 (wkOut spDDm) := by
  refine fn_sat hm ttok (tab := tb31) tb31_ok Tryz.func31 (c := Tryz.f31.body.getD .skip) (by kernel_rfl) (ts := [.cell 2 25, .tmp 3, .cell 4 45]) (by kernel_rfl) Tryz.ntmps31 (sq := fun _ => true) (by kernel_rfl) ?_
  intro args ins pk hpre0 hpk
  obtain ⟨rfl, hpre0⟩ := hpre0
  obtain ⟨code, rfl, hpre, hdec⟩ := famPre_ex hpre0
  clear hpre0 hdec
  try simp only [spDDm_pre] at hpre
  replace hpk : pk + 1800 ≤ pickLimit := hpk
  refine ⟨Nat.le_of_ble_eq_true rfl, ?_⟩
  simp (config := { maxSteps := 1000000 }) only [go_sem, ↓ifP_true, ↓ifP_false, ↓ifP_not, Nat.reduceLT, Nat.reduceAdd, Nat.reduceBEq, Nat.reduceSub, Nat.reduceLeDiff, Nat.reduceEqDiff, Nat.reduceMul, Int.reduceToNat, Int.reduceEq, Int.reduceLT, Int.reduceLE, Int.reduceAdd, Int.reduceSub, Int.reduceMul, reduceCtorEq, cond_true, cond_false, forall_eq', forall_eq, forall_const, implies_true, if_true, if_false, exists_eq_left', exists_eq', exists_eq, ne_eq, Tryz.f31, tb31_15, tb31_16, tb31_40, tb31_43, spDDm_q, spDDm_A, spDDm_pre, spDDm_post, spNew_q, spAScn_q, spAScn_A, spAScn_pre, spAScn_post, spOne_q, spOne_A, spOne_pre, spOne_post, spAFil_q, spAFil_A, spAFil_pre, spAFil_post]
  repeat' (first | apply And.intro | (intro _) | omega | assumption | with_reducible rfl)
  all_goals (first | (exact ⟨_, _, rfl, rfl, hpre⟩; done) | (exact trivial; done) | (assumption; done) | ((have h9 := (‹okScn _›).len; omega); done) | ((have h9 := (‹okScn _›).len; simp only [List.mem_cons, List.not_mem_nil, or_false] at *; exact ⟨_, _, _, rfl, rfl, rfl, ‹okScn _›, ‹okF _›, by omega, by omega⟩); done) | ((have h9 := (‹okScn _›).len; simp only [List.mem_cons, List.not_mem_nil, or_false] at *; exact ⟨_, _, _, rfl, rfl, rfl, rfl, ‹okScn _›, ‹okF _›, by omega, by omega⟩); done) | (rfl; done) | ((simp (config := { maxSteps := 1000000 }) only [go_sem, ↓ifP_true, ↓ifP_false, ↓ifP_not, Nat.reduceLT, Nat.reduceAdd, Nat.reduceBEq, Nat.reduceSub, Nat.reduceLeDiff, Nat.reduceEqDiff, Nat.reduceMul, Int.reduceToNat, Int.reduceEq, Int.reduceLT, Int.reduceLE, Int.reduceAdd, Int.reduceSub, Int.reduceMul, reduceCtorEq, cond_true, cond_false, forall_eq', forall_eq, forall_const, implies_true, if_true, if_false, exists_eq_left', exists_eq', exists_eq, ne_eq]; done); done))
theorem sat_spec_DrawDamageOf : Sat Tryz.prog rt0 31 (wkIn spDDm) := sat_in (sat_out sat_spec_DrawDamageOf_0)
end Go.Proofs.YtcejoknapbhloaaGreat
end
section
set_option maxRecDepth 100000
set_option linter.unusedSimpArgs false
set_option linter.unusedVariables false
namespace Go.Proofs.YtcejoknapbhloaaGreat
open Go Go.VE
theorem jn_has {a b : Bx} {c w : Int} (ha : prpB a) (hb : prpB b) (h : inB a c w ∨ inB b c w) : inB (jnB a b) c w := by
  unfold jnB
  split
  · rename_i h1
    rw [emB, decide_eq_true_eq] at h1
    split
    · rename_i h2
      rw [emB, decide_eq_true_eq] at h2
      simp only [inB] at *; omega
    · simp only [inB] at *; omega
  · rename_i h1
    split
    · rename_i h2
      rw [emB, decide_eq_true_eq] at h2
      simp only [inB] at *; omega
    · simp only [inB] at *; omega
theorem pix_over0 (o P : Colr) : overC (coverC P 0) o = o := by
  simp only [overC, coverC, Int.mul_zero, rnd_0 (b := 16) (by decide), Int.sub_zero, rnd_mul (b := 255) (by decide), Int.zero_add]
theorem pix1_out {f : Fil} {c w : Int} (h : ¬ inB (flB f.p) c w) (o : Colr) : pix1 c w o f = o := by rw [pix1, fl_cov h, pix_over0]
theorem pixF_set {fs : List Fil} {n : Nat} {f g : Fil} {c w : Int} (hg : fs[n]? = some g) (h1 : ¬ inB (flB g.p) c w) (h2 : ¬ inB (flB f.p) c w) : pixF (fs.set n f) c w = pixF fs c w := by
  obtain ⟨hl, rfl⟩ := List.getElem?_eq_some_iff.1 hg
  rw [List.set_eq_take_append_cons_drop, if_pos hl]
  have e : fs = fs.take n ++ fs[n] :: fs.drop (n + 1) := by
    rw [← List.drop_eq_getElem_cons hl, List.take_append_drop]
  conv => rhs; rw [e]
  simp only [pixF, List.foldl_append, List.foldl_cons, pix1_out h1, pix1_out h2]
def tile (w c r : Int) : Int := r / 4 * acr w + c / 4
theorem tile_box {w h c r : Int} (hz : szd w h = true) (hc : 0 ≤ c ∧ c < w) (hr : 0 ≤ r ∧ r < h) : (0 ≤ tile w c r ∧ tile w c r < tcnt w h) ∧ inB (tbox w h (tile w c r)) c r := by
  have hs := szd_r hz
  have ha := acr_mul hz
  have hc4 : c / 4 < acr w := by unfold acr; omega
  have hr4 : r / 4 < acr h := by unfold acr; omega
  have hA : tile w c r % acr w = c / 4 := by
    rw [tile, Int.add_comm, Int.add_mul_emod_self_right, Int.emod_eq_of_lt (by omega) hc4]
  have hB : tile w c r / acr w = r / 4 := by
    rw [tile, Int.add_comm, Int.add_mul_ediv_right _ _ (by omega), Int.ediv_eq_zero_of_lt (by omega) hc4, Int.zero_add]
  refine ⟨?_, ?_⟩
  · have h5 : 0 ≤ r / 4 * acr w := Int.mul_nonneg (by omega) (by omega)
    have h6 : (r / 4 + 1) * acr w ≤ acr h * acr w := Int.mul_le_mul_of_nonneg_right (by omega) (by omega)
    rw [Int.add_mul, Int.one_mul, Int.mul_comm (acr h)] at h6
    rw [tcnt_of hz, tile]; omega
  · simp only [inB, tbox, hA, hB]; omega
theorem dmg_pix {s : Scn} {a : Int} {f g : Fil} (hok : okRp s a f = true) (hg : s.fs[a.toNat]? = some g) {c w : Int} (hc : 0 ≤ c ∧ c < s.w) (hw : 0 ≤ w ∧ w < s.h) (hne : ¬ pixF s.fs c w = pixF (s.fs.set a.toNat f) c w) : tile s.w c w ∈ dmg s a f := by
  obtain ⟨h1, h2, h3, h4⟩ := rp_parts hok
  have hz := (vScn_parts h1).1
  obtain ⟨hT, hb⟩ := tile_box hz hc hw
  have hpg := flB_prp (vFil_pts (vScn_fil h1 hg)).2.1
  have hpf := flB_prp (vFil_pts h4).2.1
  rw [← dmg_yes hok hg]
  refine tsN_mem hT.1 (by omega) ?_
  by_cases hj : inB (jnB (flB g.p) (flB f.p)) c w
  · simp only [inB] at hj hb
    rw [ovB, decide_eq_true_eq]; omega
  · exfalso
    refine hne (pixF_set hg (fun h => hj (jn_has hpg hpf (.inl h))) (fun h => hj (jn_has hpg hpf (.inr h)))).symm
theorem dmg_len (s : Scn) (a : Int) (f : Fil) : (dmg s a f).length ≤ 9 := by
  unfold dmg
  split
  · have h1 := tsN_len (dmgB s a f) s.w s.h (tcnt s.w s.h).toNat
    have h2 := acr_mul (vScn_parts (rp_parts ‹_›).1).1
    have h3 := tcnt_of (vScn_parts (rp_parts ‹_›).1).1
    omega
  · simp
end Go.Proofs.YtcejoknapbhloaaGreat
end
