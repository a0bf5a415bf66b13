/- Contracts of functions of the program vectorraster, each proved for all states that fit its description. No conditions. -/
import Derived.Test.YthphndhiacikaaaDoorPA
import Derived.Test.YthphndhiacikaaaDoorPB
import Derived.Test.YthphndhiacikaaaDoorKK
set_option linter.unusedSimpArgs false
set_option linter.unusedVariables false
section
set_option maxRecDepth 100000
set_option linter.unusedSimpArgs false
set_option linter.unusedVariables false
namespace Go.Proofs.YthphndhiacikaaaDoor
open Go Go.VE
def many (k : Int) : Int := if k = 0 then 1 else if k = 1 then 1 else if k = 2 then 2 else if k = 3 then 3 else 0
def vVerb (b : Bool) (v : Verb) : Bool := decide (0 ≤ v.k ∧ v.k ≤ 4) && decide ((v.ps.length : Int) = many v.k) && vPts v.ps && (!b || decide (v.k = 0))
def vVerbs : Bool → List Verb → Bool
  | _, [] => true
  | b, v :: r => vVerb b v && vVerbs (decide (v.k = 4)) r
def nPts (p : List Verb) : Nat := (p.map fun v => v.ps.length).sum
def vPath (p : List Verb) : Bool := vVerbs true p && decide (p.length ≤ 30) && decide (nPts p ≤ 40)
/-- Whether the next verb begins a polygon. -/
def opn (p : List Verb) (i : Int) : Bool := decide (i = 0) || match p[(i - 1).toNat]? with
  | some v => decide (v.k = 4)
  | none => false
theorem opn_prev {p : List Verb} {i : Int} {v : Verb} (h0 : 0 < i) (h : p[(i - 1).toNat]? = some v) : opn p i = decide (v.k = 4) := by
  have : (i = 0) = False := by simp; omega
  simp only [opn, h, this, decide_false, Bool.false_or]
theorem vVerb_len {b : Bool} {v : Verb} (h : ¬ (v.ps.length : Int) = many v.k) : vVerb b v = false := by simp [vVerb, h]
theorem vVerb4 {b : Bool} {ps : List Pt} (h : ¬ (ps.length : Int) = 0) : vVerb b ⟨4, ps⟩ = false := vVerb_len (v := ⟨4, ps⟩) (by show ¬ (ps.length : Int) = many 4; rw [show many 4 = 0 by decide]; exact h)
theorem vVerb_kind {b : Bool} {v : Verb} (h : ¬ (0 ≤ v.k ∧ v.k ≤ 4)) : vVerb b v = false := by simp only [vVerb, h, decide_false, Bool.false_and]
theorem nPts_mem {p : List Verb} {i : Nat} {v : Verb} (h : p[i]? = some v) : nPts (p.take i) + v.ps.length ≤ nPts p := by
  have e : nPts p = nPts (p.take i) + nPts (p.drop i) := by
    conv => lhs; rw [← List.take_append_drop i p]
    simp only [nPts, List.map_append, List.sum_append]
  obtain ⟨h1, rfl⟩ := List.getElem?_eq_some_iff.1 h
  rw [e, List.drop_eq_getElem_cons h1]
  simp only [nPts, List.map_cons, List.sum_cons]
  omega
theorem nPts_step {p : List Verb} {i : Int} {v : Verb} (h : p[i.toNat]? = some v) (h0 : 0 ≤ i) : nPts (p.take (i + 1).toNat) = nPts (p.take i.toNat) + v.ps.length := by
  rw [takeN h h0]; simp [nPts]
theorem vv_step {p : List Verb} {i : Int} {v : Verb} (h : p[i.toNat]? = some v) (h0 : 0 ≤ i) : vVerbs (opn p i) (p.drop i.toNat) = (vVerb (opn p i) v && vVerbs (opn p (i + 1)) (p.drop (i + 1).toNat)) := by
  rw [dropN h h0]
  have e : opn p (i + 1) = decide (v.k = 4) := by
    have hi : (i + 1 = 0) = False := by simp; omega
    simp only [opn, show i + 1 - 1 = i by omega, h, hi, decide_false, Bool.false_or]
  rw [e]; rfl
theorem vv_end {p : List Verb} {i : Int} (h : (p.length : Int) ≤ i) (b : Bool) : vVerbs b (p.drop i.toNat) = true := by rw [dropA h]; rfl
theorem vPath_end {p : List Verb} {i c : Int} (h : ¬ i < (p.length : Int)) (hi : 0 ≤ i ∧ i ≤ p.length ∧ vVerbs (opn p i) (p.drop i.toNat) = vVerbs true p ∧ c = nPts (p.take i.toNat)) : vPath p = (decide ((p.length : Int) ≤ 30) && decide (c ≤ 40)) := by
  obtain ⟨h1, h2, h3, rfl⟩ := hi
  rw [vv_end (by omega)] at h3
  rw [takeA (by omega), vPath, ← h3, Bool.true_and]
  congr 1 <;> rw [decide_eq_decide] <;> omega
theorem vv_bad {p : List Verb} {i : Int} {v : Verb} (h : p[i.toNat]? = some v) (h0 : 0 ≤ i) (hi : vVerbs (opn p i) (p.drop i.toNat) = vVerbs true p) (hv : vVerb (opn p i) v = false) : vPath p = false := by
  have := vv_step h h0
  rw [hi, hv, Bool.false_and] at this
  simp [vPath, this]
def spVPath_A : (List Verb) → List AV
  | p => [.c (.sl false (p.map vbC))]
def spVPath_pre : (List Verb) → Prop
  | p => p.length ≤ 2000000 ∧ nPts p ≤ 1000000000
def spVPath_post : (List Verb) → AV → List Box → Prop
  | p, r, bs => r = B (vPath p) ∧ bs = []
def spVPath : VE.Spec := famSpec spVPath_A d_lvb spVPath_pre spVPath_post 0 true
theorem spVPath_q : spVPath.flat = true ∧ spVPath.mt = [] ∧ spVPath.shut = false ∧ spVPath.cost = 0 ∧ (∀ a i, spVPath.pre a i = (i = [] ∧ famPre d_lvb spVPath_A spVPath_pre a)) ∧ ∀ a i r b, spVPath.post a i r b = (famPost d_lvb spVPath_post a r b) := ⟨rfl, rfl, rfl, rfl, fun _ _ => rfl, fun _ _ _ _ => rfl⟩
def tb19 : Nat → Option VE.Spec := tabOf [(41, wkIn spVPts)]
theorem tb19_41 : tb19 41 = some (wkIn spVPts) := rfl
theorem tb19_ok : TabOK Tryd.prog rt0 tb19 := (tabOf_cons (by kernel_rfl) sat_spec_validPoints tabOf_nil)
set_option maxHeartbeats 4000000 in
theorem sat_spec_validPath_0 : Sat Tryd.prog rt0 19 (wkOut spVPath) := by
  refine fn_sat hm ttok (tab := tb19) tb19_ok Tryd.func19 (c := Tryd.f19.body.getD .skip) (by kernel_rfl) (ts := [.tmp 2]) (by kernel_rfl) Tryd.ntmps19 (sq := fun _ => true) (by kernel_rfl) ?_
  intro args ins pk hpre0 hpk
  obtain ⟨rfl, hpre0⟩ := hpre0
  obtain ⟨p, rfl, hpre, hdec⟩ := famPre_ex hpre0
  clear hpre0 hdec
  try simp only [spVPath_pre] at hpre
  replace hpk : pk + 0 ≤ pickLimit := hpk
  refine ⟨Nat.le_of_ble_eq_true rfl, ?_⟩
  simp (config := { maxSteps := 1000000 }) only [go_sem, ↓ifP_true, ↓ifP_false, ↓ifP_not, Nat.reduceLT, Nat.reduceAdd, Nat.reduceBEq, Nat.reduceSub, Nat.reduceLeDiff, Nat.reduceEqDiff, Nat.reduceMul, Int.reduceToNat, Int.reduceEq, Int.reduceLT, Int.reduceLE, Int.reduceAdd, Int.reduceSub, Int.reduceMul, reduceCtorEq, cond_true, cond_false, forall_eq', forall_eq, forall_const, implies_true, if_true, if_false, exists_eq_left', exists_eq', exists_eq, ne_eq, Tryd.f19, tb19_41, spVPath_q, spVPath_A, spVPath_pre, spVPath_post, spVPts_q, spVPts_A, spVPts_pre, spVPts_post]
  repeat' (first | apply And.intro | (intro _) | omega | assumption | with_reducible rfl)
  refine loopS (α := Int × Int) false [1, 2, 3, 4, 5, 6, 7, 8, 9, 10, 11, 12, 13, 14, 15, 16, 17, 18, 19, 20, 21, 22, 23, 24, 25, 26, 27, 28, 29, 30, 31, 32, 33, 34, 35, 36, 37, 38, 39, 40, 41, 42, 43, 44, 45, 46, 47, 48, 49, 50, 51, 52, 53, 54, 55, 56, 57, 58, 59, 60, 61, 62, 63, 64, 65, 66, 67, 68, 69, 70, 71, 72, 73, 74, 75, 76, 77, 78, 79, 80, 81, 82, 83, 84, 85, 86] (fun σ => []) (fun σ x => [(3, I x.1), (4, I x.2)]) (fun σ x => []) (fun (c, i) => 0) (fun σ => (gI (σ.get 3), gI (σ.get 4))) (fun σ τ => []) (fun (c, i) => 0 ≤ i ∧ i ≤ p.length ∧ vVerbs (opn p i) (p.drop i.toNat) = vVerbs true p ∧ c = nPts (p.take i.toNat)) (fun (c, i) => (p.length - i).toNat) ⟨by (simp (config := { maxSteps := 1000000 }) only [go_sem, ↓ifP_true, ↓ifP_false, ↓ifP_not, Nat.reduceLT, Nat.reduceAdd, Nat.reduceBEq, Nat.reduceSub, Nat.reduceLeDiff, Nat.reduceEqDiff, Nat.reduceMul, Int.reduceToNat, Int.reduceEq, Int.reduceLT, Int.reduceLE, Int.reduceAdd, Int.reduceSub, Int.reduceMul, reduceCtorEq, cond_true, cond_false, forall_eq', forall_eq, forall_const, implies_true, if_true, if_false, exists_eq_left', exists_eq', exists_eq, ne_eq, Tryd.f19, tb19_41, spVPath_q, spVPath_A, spVPath_pre, spVPath_post, spVPts_q, spVPts_A, spVPts_pre, spVPts_post]; (repeat' (first | apply And.intro | (intro _) | omega | assumption | with_reducible rfl)); all_goals (first | rfl)), ?_⟩
  rintro ⟨c, i⟩ hinv
  try dsimp only at hinv
  rcases elemAt p i (by omega) with ⟨hlt, v, hk⟩ | hlt
  all_goals (first | ((have hlt2 := of_eq_true hlt); (have hlt2 : i < p.length := of_eq_true hlt); (have hT := nPts_mem hk); (have hS := nPts_step hk hinv.1); (have hV := vv_step hk hinv.1); (obtain ⟨k, ps⟩ := v); (dsimp only at hT hS); (rcases kind4 k with rfl | rfl | rfl | rfl | rfl | ⟨h0, h1, h2, h3, h4⟩); all_goals (first | simp (config := { maxSteps := 1000000 }) only [go_sem, ↓ifP_true, ↓ifP_false, ↓ifP_not, Nat.reduceLT, Nat.reduceAdd, Nat.reduceBEq, Nat.reduceSub, Nat.reduceLeDiff, Nat.reduceEqDiff, Nat.reduceMul, Int.reduceToNat, Int.reduceEq, Int.reduceLT, Int.reduceLE, Int.reduceAdd, Int.reduceSub, Int.reduceMul, reduceCtorEq, cond_true, cond_false, forall_eq', forall_eq, forall_const, implies_true, if_true, if_false, exists_eq_left', exists_eq', exists_eq, ne_eq, Tryd.f19, tb19_41, spVPath_q, spVPath_A, spVPath_pre, spVPath_post, spVPts_q, spVPts_A, spVPts_pre, spVPts_post, hlt, hk, h0, h1, h2, h3, h4] | simp (config := { maxSteps := 1000000 }) only [go_sem, ↓ifP_true, ↓ifP_false, ↓ifP_not, Nat.reduceLT, Nat.reduceAdd, Nat.reduceBEq, Nat.reduceSub, Nat.reduceLeDiff, Nat.reduceEqDiff, Nat.reduceMul, Int.reduceToNat, Int.reduceEq, Int.reduceLT, Int.reduceLE, Int.reduceAdd, Int.reduceSub, Int.reduceMul, reduceCtorEq, cond_true, cond_false, forall_eq', forall_eq, forall_const, implies_true, if_true, if_false, exists_eq_left', exists_eq', exists_eq, ne_eq, Tryd.f19, tb19_41, spVPath_q, spVPath_A, spVPath_pre, spVPath_post, spVPts_q, spVPts_A, spVPts_pre, spVPts_post, hlt, hk])) | (have hlt2 := of_eq_false hlt; (first | simp (config := { maxSteps := 1000000 }) only [go_sem, ↓ifP_true, ↓ifP_false, ↓ifP_not, Nat.reduceLT, Nat.reduceAdd, Nat.reduceBEq, Nat.reduceSub, Nat.reduceLeDiff, Nat.reduceEqDiff, Nat.reduceMul, Int.reduceToNat, Int.reduceEq, Int.reduceLT, Int.reduceLE, Int.reduceAdd, Int.reduceSub, Int.reduceMul, reduceCtorEq, cond_true, cond_false, forall_eq', forall_eq, forall_const, implies_true, if_true, if_false, exists_eq_left', exists_eq', exists_eq, ne_eq, Tryd.f19, tb19_41, spVPath_q, spVPath_A, spVPath_pre, spVPath_post, spVPts_q, spVPts_A, spVPts_pre, spVPts_post, hlt, h0, h1, h2, h3, h4] | simp (config := { maxSteps := 1000000 }) only [go_sem, ↓ifP_true, ↓ifP_false, ↓ifP_not, Nat.reduceLT, Nat.reduceAdd, Nat.reduceBEq, Nat.reduceSub, Nat.reduceLeDiff, Nat.reduceEqDiff, Nat.reduceMul, Int.reduceToNat, Int.reduceEq, Int.reduceLT, Int.reduceLE, Int.reduceAdd, Int.reduceSub, Int.reduceMul, reduceCtorEq, cond_true, cond_false, forall_eq', forall_eq, forall_const, implies_true, if_true, if_false, exists_eq_left', exists_eq', exists_eq, ne_eq, Tryd.f19, tb19_41, spVPath_q, spVPath_A, spVPath_pre, spVPath_post, spVPts_q, spVPts_A, spVPts_pre, spVPts_post, hlt])))
  all_goals
    repeat' (first | apply And.intro | (intro _) | omega | assumption | with_reducible rfl)
  all_goals (first | (exact (vv_bad hk hinv.1 hinv.2.2.1 (vVerb4 ‹_›)).symm; done) | (exact (vv_bad hk hinv.1 hinv.2.2.1 (vVerb_len (by simpa [many] using ‹¬ _›))).symm; done) | (exact (vv_bad hk hinv.1 hinv.2.2.1 (vVerb_kind (by have e0 := of_eq_false h0; have e1 := of_eq_false h1; have e2 := of_eq_false h2; have e3 := of_eq_false h3; have e4 := of_eq_false h4; dsimp only; omega))).symm; done) | ((rw [vPath_end (of_eq_false hlt) hinv]; simp [*]); done) | ((rw [← hinv.2.2.1, hV, opn_prev ‹0 < i› ‹p[(i - 1).toNat]? = some _›]; simp [vVerb, many, *]); done) | (exact (vv_bad hk hinv.1 hinv.2.2.1 (by rw [opn_prev ‹0 < i› ‹p[(i - 1).toNat]? = some _›]; simp [vVerb, many, *])).symm; done) | ((rw [← hinv.2.2.1, hV]; simp [vVerb, many, opn, *]); done) | (exact vv_bad hk hinv.1 hinv.2.2.1 (by simp [vVerb, many, opn, *]); done) | (exact (vv_bad hk hinv.1 hinv.2.2.1 (by simp [vVerb, many, opn, *])).symm; done) | ((have hge : (p.length : Int) ≤ i := by have := of_eq_false hlt; omega; simp_all [vPath, vv_end]); done) | (simp_all; done))
theorem sat_spec_validPath : Sat Tryd.prog rt0 19 (wkIn spVPath) := sat_in (sat_out sat_spec_validPath_0)
end Go.Proofs.YthphndhiacikaaaDoor
end
section
set_option maxRecDepth 100000
set_option linter.unusedSimpArgs false
set_option linter.unusedVariables false
namespace Go.Proofs.YthphndhiacikaaaDoor
open Go Go.VE
/-- One verb more: the polygons so far, and the one that is open. -/
def ringStep (s : List (List Pt) × List Pt) (v : Verb) : List (List Pt) × List Pt :=
  if v.k = 0 then (if s.2 = [] then s.1 else s.1 ++ [s.2], [v.ps.headD default])
  else if v.k = 4 then s else (s.1, s.2 ++ flatP 3 (s.2.getLastD default :: v.ps))
def ringFold (p : List Verb) : List (List Pt) × List Pt := p.foldl ringStep ([], [])
def ringsOf (p : List Verb) : List (List Pt) := if (ringFold p).2 = [] then (ringFold p).1 else (ringFold p).1 ++ [(ringFold p).2]
theorem vv_at {p : List Verb} (h : vPath p = true) : ∀ n : Nat, n ≤ p.length → vVerbs (opn p n) (p.drop n) = true
  | 0, _ => by
    simp only [vPath, Bool.and_eq_true] at h
    exact h.1.1
  | n + 1, hn => by
    have ih := vv_at h n (by omega)
    obtain ⟨v, hv⟩ : ∃ v, p[((n : Nat) : Int).toNat]? = some v := ⟨_, List.getElem?_eq_getElem (by omega)⟩
    have := vv_step hv (by omega)
    simp only [Int.toNat_natCast] at this
    rw [ih] at this
    have e := (Bool.and_eq_true_iff.1 this.symm).2
    simpa [show ((n : Int) + 1).toNat = n + 1 by omega] using e
theorem vPath_at {p : List Verb} {i : Int} {v : Verb} (h : vPath p = true) (h0 : 0 ≤ i) (hv : p[i.toNat]? = some v) : vVerb (opn p i) v = true := by
  have hl := (List.getElem?_eq_some_iff.1 hv).1
  have := vv_at h i.toNat (by omega)
  rw [show ((i.toNat : Nat) : Int) = i by omega, vv_step hv h0] at this
  exact (Bool.and_eq_true_iff.1 this).1
theorem okL_nil : okL [] := ⟨by intro p hp; cases hp⟩
theorem okL_app {a b : List Pt} (ha : okL a) (hb : okL b) : okL (a ++ b) := ⟨fun p hp => (List.mem_append.1 hp).elim (ha.all p) (hb.all p)⟩
theorem okL_cons {a : Pt} {b : List Pt} (ha : okP a) (hb : okL b) : okL (a :: b) := ⟨fun p hp => (List.mem_cons.1 hp).elim (fun h => h ▸ ha) (hb.all p)⟩
theorem vPt_ok {p : Pt} (h : vPt p = true) : okP p := by
  simp only [vPt, isU, Bool.and_eq_true, decide_eq_true_eq] at h
  constructor <;> omega
theorem vPts_ok {l : List Pt} (h : vPts l = true) : okL l := by
  simp only [vPts, Bool.and_eq_true, List.all_eq_true] at h
  exact ⟨fun p hp => vPt_ok (h.2 p hp)⟩
theorem vVerb_pts {b : Bool} {v : Verb} (h : vVerb b v = true) : (v.ps.length : Int) = many v.k ∧ okL v.ps ∧ (0 ≤ v.k ∧ v.k ≤ 4) ∧ (b = true → v.k = 0) := by
  simp only [vVerb, Bool.and_eq_true, decide_eq_true_eq, Bool.or_eq_true, Bool.not_eq_true'] at h
  obtain ⟨⟨⟨h1, h2⟩, h3⟩, h4⟩ := h
  refine ⟨h2, vPts_ok h3, h1, fun hb => ?_⟩
  rcases h4 with h4 | h4
  · rw [hb] at h4; cases h4
  · exact h4
theorem okL_getLastD {l : List Pt} (h : okL l) (hl : 0 < l.length) : okP (l.getLastD default) := by
  cases l with
  | nil => simp at hl
  | cons a r => exact h.all _ (last_mem a r)
theorem ringFold_snoc (p : List Verb) (v : Verb) : ringFold (p ++ [v]) = ringStep (ringFold p) v := by
  simp only [ringFold, List.foldl_append, List.foldl_cons, List.foldl_nil]
theorem ringFold_step {p : List Verb} {i : Int} {v : Verb} (hv : p[i.toNat]? = some v) (h0 : 0 ≤ i) : ringFold (p.take (i + 1).toNat) = ringStep (ringFold (p.take i.toNat)) v := by
  rw [takeN hv h0, ringFold_snoc]
structure RingInv (n : Nat) (s : List (List Pt) × List Pt) : Prop where
  ok : okL s.2
  len : s.2.length ≤ 1 + 8 * n
  num : s.1.length ≤ n
  pos : 0 < n → 0 < s.2.length
  all : ∀ r ∈ s.1, okL r ∧ 0 < r.length ∧ r.length ≤ 1 + 8 * n
theorem ringInv_at {p : List Verb} (h : vPath p = true) : ∀ n : Nat, n ≤ p.length → RingInv n (ringFold (p.take n))
  | 0, _ => ⟨okL_nil, by simp [ringFold], by simp [ringFold], by omega, by intro r hr; simp [ringFold] at hr⟩
  | n + 1, hn => by
    have ih := ringInv_at h n (by omega)
    obtain ⟨v, hv⟩ : ∃ v, p[((n : Nat) : Int).toNat]? = some v := ⟨_, List.getElem?_eq_getElem (by omega)⟩
    have hs := ringFold_step hv (by omega)
    have hb := vVerb_pts (vPath_at h (by omega) hv)
    simp only [Int.toNat_natCast, show ((n : Int) + 1).toNat = n + 1 by omega] at hs
    rw [hs]
    generalize ringFold (p.take n) = s at ih
    obtain ⟨o, m⟩ := s
    obtain ⟨k, ps⟩ := v
    obtain ⟨h1, h2, h3, h4⟩ := hb
    obtain ⟨i1, i2, i3, i4, i5⟩ := ih
    dsimp only at h1 h2 h3 h4 i1 i2 i3 i4 i5
    have hall : ∀ r ∈ o, okL r ∧ 0 < r.length ∧ r.length ≤ 1 + 8 * (n + 1) := fun r hr => ⟨(i5 r hr).1, (i5 r hr).2.1, by have := (i5 r hr).2.2; omega⟩
    simp only [ringStep]
    by_cases k0 : k = 0
    · subst k0
      have hl : ps.length = 1 := by have h1' : (ps.length : Int) = 1 := h1; omega
      rw [if_pos rfl]
      have hh : okP (ps.headD default) := by
        cases ps with
        | nil => simp at hl
        | cons a r => exact h2.all a (by simp)
      refine ⟨okL_cons hh okL_nil, by simp, ?_, by simp, ?_⟩
      · dsimp only; split
        · omega
        · simp only [List.length_append, List.length_cons, List.length_nil]; omega
      · intro r hr
        dsimp only at hr
        split at hr
        · exact hall r hr
        · rename_i hm
          rcases List.mem_append.1 hr with hr | hr
          · exact hall r hr
          · rw [List.mem_singleton] at hr
            subst hr
            exact ⟨i1, List.length_pos_iff.2 hm, by omega⟩
    · rw [if_neg k0]
      have hn0 : 0 < n := by
        rcases Nat.eq_zero_or_pos n with rfl | hp
        · exact absurd (h4 (by simp [opn])) k0
        · exact hp
      by_cases k4 : k = 4
      · rw [if_pos k4]
        exact ⟨i1, by dsimp only; omega, by dsimp only; omega, fun _ => i4 hn0, hall⟩
      · rw [if_neg k4]
        have hf := flatP_len 3 (m.getLastD default :: ps)
        refine ⟨okL_app i1 (flatP_ok 3 _ (okL_cons (okL_getLastD i1 (i4 hn0)) h2) (by simp)), ?_, by dsimp only; omega, ?_, hall⟩
        · simp only [List.length_append]; omega
        · intro _; have := i4 hn0; simp only [List.length_append]; omega
end Go.Proofs.YthphndhiacikaaaDoor
end
section
set_option maxRecDepth 100000
set_option linter.unusedSimpArgs false
set_option linter.unusedVariables false
namespace Go.Proofs.YthphndhiacikaaaDoor
open Go Go.VE
def spRings_A : (List Verb) → List AV
  | p => [.c (.sl false (p.map vbC))]
def spRings_pre : (List Verb) → Prop
  | p => vPath p = true
def spRings_post : (List Verb) → AV → List Box → Prop
  | p, r, bs => r = .c (.own 0 (ringsOf p).length false) ∧ bs = [⟨(ringsOf p).map lptC, 1, 41, true, false⟩]
def spRings : VE.Spec := famSpec spRings_A d_lvb spRings_pre spRings_post 0 false
theorem spRings_q : spRings.flat = false ∧ spRings.mt = [] ∧ spRings.shut = false ∧ spRings.cost = 0 ∧ (∀ a i, spRings.pre a i = (i = [] ∧ famPre d_lvb spRings_A spRings_pre a)) ∧ ∀ a i r b, spRings.post a i r b = (famPost d_lvb spRings_post a r b) := ⟨rfl, rfl, rfl, rfl, fun _ _ => rfl, fun _ _ _ _ => rfl⟩
theorem vPath_len {p : List Verb} (h : vPath p = true) : p.length ≤ 30 := by
  simp only [vPath, Bool.and_eq_true, decide_eq_true_eq] at h; exact h.1.2
theorem many_pos {k : Int} {ps : List Pt} (h : (ps.length : Int) = many k) (h1 : 0 ≤ k) (h2 : k ≤ 3) : 1 ≤ ps.length ∧ ps.length ≤ 3 := by
  have : k = 0 ∨ k = 1 ∨ k = 2 ∨ k = 3 := by omega
  rcases this with rfl | rfl | rfl | rfl <;> simp [many] at h <;> omega
theorem ring_move {o : List (List Pt)} {m ps : List Pt} {q : Pt} (h : ps[0]? = some q) : ringStep (o, m) ⟨0, ps⟩ = (if m = [] then o else o ++ [m], [q]) := by
  cases ps with
  | nil => cases h
  | cons a r => cases h; rfl
theorem ring_line {o : List (List Pt)} {m ps : List Pt} {q : Pt} {k : Int} (h : m[((m.length : Int) - 1).toNat]? = some q) (h0 : 1 ≤ k) (h3 : k ≤ 3) : ringStep (o, m) ⟨k, ps⟩ = (o, m ++ flatP 3 (q :: ps)) := by
  unfold ringStep
  rw [if_neg (by dsimp only; omega), if_neg (by dsimp only; omega), last_of h]
theorem ring_pos {p : List Verb} {i : Int} {v : Verb} (h : vPath p = true) (hv : p[i.toNat]? = some v) (h0 : 0 ≤ i) (hk : v.k ≠ 0) : 0 < (ringFold (p.take i.toNat)).2.length := by
  have hb := vVerb_pts (vPath_at h h0 hv)
  have hl := (List.getElem?_eq_some_iff.1 hv).1
  have hi : 0 < i := by
    rcases Int.lt_or_eq_of_le h0 with hi | hi
    · exact hi
    · subst hi; exact absurd (hb.2.2.2 (by simp [opn])) hk
  exact (ringInv_at h i.toNat (by omega)).pos (by omega)
theorem rings_end {p : List Verb} {i : Int} {o : List (List Pt)} {m : List Pt} (h : ¬ i < (p.length : Int)) (hi : (o, m) = ringFold (p.take i.toNat)) (hm : m ≠ []) : o ++ [m] = ringsOf p := by
  rw [takeA (by omega)] at hi
  rw [ringsOf, ← hi, if_neg hm]
theorem rings_end0 {p : List Verb} {i : Int} {o : List (List Pt)} {m : List Pt} (h : ¬ i < (p.length : Int)) (hi : (o, m) = ringFold (p.take i.toNat)) (hm : m = []) : o = ringsOf p := by
  rw [takeA (by omega)] at hi
  rw [ringsOf, ← hi, if_pos hm]
theorem lpt_map (a : List (List Pt)) (b : List Pt) : a.map lptC ++ [[C.sl false (b.map ptC)]] = (a ++ [b]).map lptC := by rw [List.map_append]; rfl
theorem ring_len1 {m : List Pt} (h : 0 < m.length) : m ≠ [] := List.length_pos_iff.1 h
theorem ring_len0 {m : List Pt} (h : ¬ 0 < m.length) : m = [] := List.length_eq_zero_iff.1 (by omega)
end Go.Proofs.YthphndhiacikaaaDoor
end
section
set_option maxRecDepth 100000
set_option linter.unusedSimpArgs false
set_option linter.unusedVariables false
namespace Go.Proofs.YthphndhiacikaaaDoor
open Go Go.VE
end Go.Proofs.YthphndhiacikaaaDoor
end
