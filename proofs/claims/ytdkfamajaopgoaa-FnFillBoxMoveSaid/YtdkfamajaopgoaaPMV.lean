/- Contracts of functions of the program vectorraster, each proved for all states that fit its description. No conditions. -/
import Derived.Test.YtdkfamajaopgoaaPO
import Derived.Test.YtdkfamajaopgoaaPI
import Derived.Test.YtdkfamajaopgoaaPH
import Derived.Test.YtdkfamajaopgoaaP3KQ
import Derived.Test.YtdkfamajaopgoaaPY
import Derived.Test.YtdkfamajaopgoaaPR
set_option linter.unusedSimpArgs false
set_option linter.unusedVariables false
section
set_option maxRecDepth 100000
set_option linter.unusedSimpArgs false
set_option linter.unusedVariables false
namespace Go.Proofs.Ytdkfamajaopgoaa
open Go Go.VE
def mvV (x y : Int) (v : Verb) : Verb := ⟨v.k, mvs v.ps x y⟩
def mvP (p : List Verb) (x y : Int) : List Verb := p.map (mvV x y)
theorem mvP_len (p : List Verb) (x y : Int) : (mvP p x y).length = p.length := List.length_map _
theorem mvP_pts (p : List Verb) (x y : Int) : nPts (mvP p x y) = nPts p := by
  simp only [nPts, mvP, List.map_map]; congr 1
  exact List.map_congr_left fun v _ => by simp [mvV, mvs]
theorem mvP_snoc (p : List Verb) (v : Verb) (x y : Int) : mvP (p ++ [v]) x y = mvP p x y ++ [mvV x y v] := by simp [mvP]
def mvB (p : List Verb) (x y : Int) : Bool := vPath p && isU x && isU y && vPath (mvP p x y)
def mvO (p : List Verb) (x y : Int) : List Verb := if mvB p x y = true then mvP p x y else []
theorem mvO_yes {p : List Verb} {x y : Int} (h : vPath p = true) (h1 : isU x = true) (h2 : isU y = true) (h3 : vPath (mvP p x y) = true) : mvB p x y = true ∧ mvO p x y = mvP p x y := by
  have e : mvB p x y = true := by rw [mvB, h, h1, h2, h3]; rfl
  exact ⟨e, if_pos e⟩
theorem mvO_no {p : List Verb} {x y : Int} (h : mvB p x y = false) : mvO p x y = [] := if_neg (by rw [h]; decide)
theorem mvO_no1 {p : List Verb} {x y : Int} (h : vPath p = false) : mvB p x y = false := by rw [mvB, h]; rfl
theorem mvO_no2 {p : List Verb} {x y : Int} (h : isU x = false) : mvB p x y = false := by simp [mvB, h]
theorem mvO_no3 {p : List Verb} {x y : Int} (h : isU y = false) : mvB p x y = false := by simp [mvB, h]
theorem mvO_no4 {p : List Verb} {x y : Int} (h : vPath (mvP p x y) = false) : mvB p x y = false := by simp [mvB, h]
theorem row_step {A : List (List C)} {z e : List C} {i n : Nat} (hA : A.length = i) (hi : i < n) : (A ++ List.replicate (n - i) z).set i e = A ++ [e] ++ List.replicate (n - (i + 1)) z := by
  rw [show n - i = (n - (i + 1)) + 1 by omega, List.replicate_succ, List.set_append_right _ _ (by omega), hA, Nat.sub_self, List.set_cons_zero, List.append_assoc]; rfl
theorem mv_take {p : List Verb} {i : Int} {v : Verb} {x y : Int} (h : p[i.toNat]? = some v) (h0 : 0 ≤ i) : mvP (p.take (i + 1).toNat) x y = mvP (p.take i.toNat) x y ++ [mvV x y v] := by rw [takeN h h0, mvP_snoc]
abbrev zVb : List C := [C.v (.int .i64 0), C.v (.slice none 0 0)]
theorem wk_zrow (A : List Verb) (n : Nat) : wkEs (A.map vbC ++ List.replicate n zVb) = A.map vbC ++ List.replicate n zVb := by
  rw [wkEs_map, List.map_append, List.map_replicate, List.map_map]
  congr 1
  exact List.map_congr_left fun v _ => vbC_wk v
theorem wk_zrow0 (n : Nat) (x y : Int) : wkEs (List.replicate n zVb) = (mvP [] x y).map vbC ++ List.replicate (n - 0) zVb := wk_zrow [] n
theorem mv_tlen {p : List Verb} {j : Int} (h0 : 0 ≤ j) (h1 : j ≤ p.length) (x y : Int) : (mvP (p.take j.toNat) x y).length = j.toNat := by rw [mvP_len, List.length_take]; omega
theorem mv_row {p : List Verb} {j : Int} {v : Verb} {x y : Int} {e : List C} (hk : p[j.toNat]? = some v) (h0 : 0 ≤ j) (he : ((mvP (p.take j.toNat) x y).map vbC ++ List.replicate (p.length - j.toNat) zVb)[j.toNat]? = some e) :
    wkEs (((mvP (p.take j.toNat) x y).map vbC ++ List.replicate (p.length - j.toNat) zVb).set j.toNat (C.v (.int .i64 v.k) :: C.sl false ((mvs v.ps x y).map ptC) :: List.drop 2 e)) = (mvP (p.take (j + 1).toNat) x y).map vbC ++ List.replicate (p.length - (j + 1).toNat) zVb := by
  have hl := (List.getElem?_eq_some_iff.1 hk).1
  have hA : ((mvP (p.take j.toNat) x y).map vbC).length = j.toNat := by rw [List.length_map]; exact mv_tlen h0 (by omega) x y
  have hz : e = zVb := by
    rw [List.getElem?_append_right (by omega), hA, Nat.sub_self, List.getElem?_replicate, if_pos (by omega)] at he
    exact (Option.some.inj he).symm
  subst hz
  rw [show (j + 1).toNat = j.toNat + 1 by omega, row_step hA (by omega)]
  have e1 : (mvP (p.take j.toNat) x y).map vbC ++ [C.v (.int .i64 v.k) :: C.sl false ((mvs v.ps x y).map ptC) :: List.drop 2 zVb] = (mvP (p.take (j.toNat + 1)) x y).map vbC := by
    have := mv_take (x := x) (y := y) hk h0
    rw [show (j + 1).toNat = j.toNat + 1 by omega] at this
    rw [this, List.map_append]; rfl
  rw [e1, wk_zrow]
theorem mv_end {p : List Verb} {j : Int} (h : ¬ j < (p.length : Int)) (h1 : j ≤ p.length) (x y : Int) : (mvP (p.take j.toNat) x y).map vbC ++ List.replicate (p.length - j.toNat) zVb = (mvP p x y).map vbC := by
  rw [takeA (by omega), show p.length - j.toNat = 0 by omega, List.replicate_zero, List.append_nil]
def spMvP_A : (List Verb) × Int × Int → List AV
  | (p, x, y) => [.c (.sl false (p.map vbC)), I x, I y]
def spMvP_pre : (List Verb) × Int × Int → Prop
  | (p, x, y) => p.length ≤ 1000000 ∧ nPts p ≤ 1000000000
def spMvP_post : (List Verb) × Int × Int → AV → List Box → Prop
  | (p, x, y), r, bs => r = .tup [.c (.sl false ((mvO p x y).map vbC)), B (mvB p x y)] ∧ bs = []
def spMvP : VE.Spec := famSpecS spMvP_A d_lvb_i_i spMvP_pre spMvP_post 0 false
theorem spMvP_q : spMvP.flat = false ∧ spMvP.mt = [] ∧ spMvP.shut = true ∧ spMvP.cost = 0 ∧ (∀ a i, spMvP.pre a i = (i = [] ∧ famPre d_lvb_i_i spMvP_A spMvP_pre a)) ∧ ∀ a i r b, spMvP.post a i r b = (famPost d_lvb_i_i spMvP_post a r b) := ⟨rfl, rfl, rfl, rfl, fun _ _ => rfl, fun _ _ _ _ => rfl⟩
end Go.Proofs.Ytdkfamajaopgoaa
end
section
set_option maxRecDepth 100000
set_option linter.unusedSimpArgs false
set_option linter.unusedVariables false
namespace Go.Proofs.Ytdkfamajaopgoaa
open Go Go.VE
theorem vPath_okL {p : List Verb} (h : vPath p = true) : ∀ v ∈ p, okL v.ps := by
  intro v hv
  obtain ⟨n, hn⟩ := List.getElem?_of_mem hv
  exact (vVerb_pts (vPath_at h (i := (n : Int)) (by omega) hn)).2.1
def tb40 : Nat → Option VE.Spec := tabOf [(47, wkIn spVPath), (91, wkIn spIsU), (92, wkIn spMvd)]
theorem tb40_47 : tb40 47 = some (wkIn spVPath) := rfl
theorem tb40_91 : tb40 91 = some (wkIn spIsU) := rfl
theorem tb40_92 : tb40 92 = some (wkIn spMvd) := rfl
theorem tb40_ok : TabOK Try.prog rt0 tb40 := (tabOf_cons (by kernel_rfl) sat_impl_ValidPath (tabOf_cons (by kernel_rfl) sat_impl_isUnit (tabOf_cons (by kernel_rfl) sat_impl_moved tabOf_nil)))
set_option maxHeartbeats 4000000 in
theorem sat_impl_MovePath_0 : Sat Try.prog rt0 40 (wkOut spMvP) := by
  refine fn_sat hm ttok (tab := tb40) tb40_ok Try.func40 (c := Try.f40.body.getD .skip) (by kernel_rfl) (ts := [.tmp 6, .tmp 7]) (by kernel_rfl) Try.ntmps40 (sq := fun _ => true) (by kernel_rfl) ?_
  intro args ins pk hpre0 hpk
  obtain ⟨rfl, hpre0⟩ := hpre0
  obtain ⟨⟨p, x, y⟩, rfl, hpre, hdec⟩ := famPre_ex hpre0
  clear hpre0 hdec
  try simp only [spMvP_pre] at hpre
  replace hpk : pk + 0 ≤ pickLimit := hpk
  refine ⟨Nat.le_of_ble_eq_true rfl, ?_⟩
  simp (config := { maxSteps := 1000000 }) only [go_sem, ↓ifP_true, ↓ifP_false, ↓ifP_not, Nat.reduceLT, Nat.reduceAdd, Nat.reduceBEq, Nat.reduceSub, Nat.reduceLeDiff, Nat.reduceEqDiff, Nat.reduceMul, Int.reduceToNat, Int.reduceEq, Int.reduceLT, Int.reduceLE, Int.reduceAdd, Int.reduceSub, Int.reduceMul, reduceCtorEq, cond_true, cond_false, forall_eq', forall_eq, forall_const, implies_true, if_true, if_false, exists_eq_left', exists_eq', exists_eq, ne_eq, Try.f40, tb40_47, tb40_91, tb40_92, spMvP_q, spMvP_A, spMvP_pre, spMvP_post, spVPath_q, spVPath_A, spVPath_pre, spVPath_post, spIsU_q, spIsU_A, spIsU_pre, spIsU_post, spMvd_q, spMvd_A, spMvd_pre, spMvd_post]
  repeat' (first | apply And.intro | (intro _) | omega | assumption | with_reducible rfl)
  all_goals try (have hu := isU_iff.1 ‹isU x = true›; have hw := isU_iff.1 ‹isU y = true›; have okv := vPath_okL ‹vPath p = true›)
  any_goals
    refine loopS (α := Int) true [0, 3, 4, 5, 6, 7, 9, 10, 11, 12, 13, 14, 15, 16, 17, 18, 19, 20, 21, 22, 23, 24, 25, 26, 29, 30, 31, 32, 33, 34, 35, 36, 37, 38, 39, 40, 41, 42, 43, 44, 45, 46, 47, 48, 49] (fun σ => [gId (σ.get 8)]) (fun σ j => [(29, I j)]) (fun σ j => [(gId (σ.get 8), some ⟨(mvP (p.take j.toNat) x y).map vbC ++ List.replicate (p.length - j.toNat) zVb, 2, 79, true, false⟩)]) (fun _ => 0) (fun σ => gI (σ.get 29)) (fun _ _ => []) (fun j => 0 ≤ j ∧ j ≤ p.length) (fun j => (p.length - j).toNat) ⟨?_, ?_⟩
    · simp (config := { maxSteps := 1000000 }) only [go_sem, ↓ifP_true, ↓ifP_false, ↓ifP_not, Nat.reduceLT, Nat.reduceAdd, Nat.reduceBEq, Nat.reduceSub, Nat.reduceLeDiff, Nat.reduceEqDiff, Nat.reduceMul, Int.reduceToNat, Int.reduceEq, Int.reduceLT, Int.reduceLE, Int.reduceAdd, Int.reduceSub, Int.reduceMul, reduceCtorEq, cond_true, cond_false, forall_eq', forall_eq, forall_const, implies_true, if_true, if_false, exists_eq_left', exists_eq', exists_eq, ne_eq, Try.f40, tb40_47, tb40_91, tb40_92, spMvP_q, spMvP_A, spMvP_pre, spMvP_post, spVPath_q, spVPath_A, spVPath_pre, spVPath_post, spIsU_q, spIsU_A, spIsU_pre, spIsU_post, spMvd_q, spMvd_A, spMvd_pre, spMvd_post]
      repeat' (first | apply And.intro | (intro _) | omega | assumption | with_reducible rfl)
      all_goals (first | (omega; done) | (exact wk_zrow0 _ _ _; done) | ((have h9 := nPts_mem hk; have h8 := vPath_pts ‹vPath p = true›; omega); done) | (exact okv v (List.mem_of_getElem? hk); done) | ((rw [mv_tlen hinv.1 hinv.2]; omega); done) | (rfl; done) | (exact mv_row hk hinv.1 ‹_›; done) | ((rw [mvP_len]); done) | ((rw [mvP_len]; omega); done) | ((rw [mvP_pts]; omega); done) | ((rw [(mvO_yes ‹vPath p = true› ‹isU x = true› ‹isU y = true› ‹_›).2]); done) | ((rw [(mvO_yes ‹vPath p = true› ‹isU x = true› ‹isU y = true› ‹_›).1]); done) | ((rw [mvO_no (mvO_no4 ‹_›)]; rfl); done) | ((rw [mvO_no4 ‹_›]); done))
    · intro j hinv
      rcases elemAt p j (by omega) with ⟨hlt, v, hk⟩ | hlt
      · have hlt2 := of_eq_true hlt
        simp (config := { maxSteps := 1000000 }) only [go_sem, ↓ifP_true, ↓ifP_false, ↓ifP_not, Nat.reduceLT, Nat.reduceAdd, Nat.reduceBEq, Nat.reduceSub, Nat.reduceLeDiff, Nat.reduceEqDiff, Nat.reduceMul, Int.reduceToNat, Int.reduceEq, Int.reduceLT, Int.reduceLE, Int.reduceAdd, Int.reduceSub, Int.reduceMul, reduceCtorEq, cond_true, cond_false, forall_eq', forall_eq, forall_const, implies_true, if_true, if_false, exists_eq_left', exists_eq', exists_eq, ne_eq, Try.f40, tb40_47, tb40_91, tb40_92, spMvP_q, spMvP_A, spMvP_pre, spMvP_post, spVPath_q, spVPath_A, spVPath_pre, spVPath_post, spIsU_q, spIsU_A, spIsU_pre, spIsU_post, spMvd_q, spMvd_A, spMvd_pre, spMvd_post, hlt, hk]
        repeat' (first | apply And.intro | (intro _) | omega | assumption | with_reducible rfl)

        all_goals (first | (omega; done) | (exact wk_zrow0 _ _ _; done) | ((have h9 := nPts_mem hk; have h8 := vPath_pts ‹vPath p = true›; omega); done) | (exact okv v (List.mem_of_getElem? hk); done) | ((rw [mv_tlen hinv.1 hinv.2]; omega); done) | (rfl; done) | (exact mv_row hk hinv.1 ‹_›; done) | ((rw [mvP_len]); done) | ((rw [mvP_len]; omega); done) | ((rw [mvP_pts]; omega); done) | ((rw [(mvO_yes ‹vPath p = true› ‹isU x = true› ‹isU y = true› ‹_›).2]); done) | ((rw [(mvO_yes ‹vPath p = true› ‹isU x = true› ‹isU y = true› ‹_›).1]); done) | ((rw [mvO_no (mvO_no4 ‹_›)]; rfl); done) | ((rw [mvO_no4 ‹_›]); done))
      · have hlt2 := of_eq_false hlt
        have hE := mv_end hlt2 hinv.2 x y
        have hml := mvP_len p x y
        simp (config := { maxSteps := 1000000 }) only [go_sem, ↓ifP_true, ↓ifP_false, ↓ifP_not, Nat.reduceLT, Nat.reduceAdd, Nat.reduceBEq, Nat.reduceSub, Nat.reduceLeDiff, Nat.reduceEqDiff, Nat.reduceMul, Int.reduceToNat, Int.reduceEq, Int.reduceLT, Int.reduceLE, Int.reduceAdd, Int.reduceSub, Int.reduceMul, reduceCtorEq, cond_true, cond_false, forall_eq', forall_eq, forall_const, implies_true, if_true, if_false, exists_eq_left', exists_eq', exists_eq, ne_eq, Try.f40, tb40_47, tb40_91, tb40_92, spMvP_q, spMvP_A, spMvP_pre, spMvP_post, spVPath_q, spVPath_A, spVPath_pre, spVPath_post, spIsU_q, spIsU_A, spIsU_pre, spIsU_post, spMvd_q, spMvd_A, spMvd_pre, spMvd_post, hlt, hE, hml]
        repeat' (first | apply And.intro | (intro _) | omega | assumption | with_reducible rfl)
        all_goals (first | (omega; done) | (exact wk_zrow0 _ _ _; done) | ((have h9 := nPts_mem hk; have h8 := vPath_pts ‹vPath p = true›; omega); done) | (exact okv v (List.mem_of_getElem? hk); done) | ((rw [mv_tlen hinv.1 hinv.2]; omega); done) | (rfl; done) | (exact mv_row hk hinv.1 ‹_›; done) | ((rw [mvP_len]); done) | ((rw [mvP_len]; omega); done) | ((rw [mvP_pts]; omega); done) | ((rw [(mvO_yes ‹vPath p = true› ‹isU x = true› ‹isU y = true› ‹_›).2]); done) | ((rw [(mvO_yes ‹vPath p = true› ‹isU x = true› ‹isU y = true› ‹_›).1]); done) | ((rw [mvO_no (mvO_no4 ‹_›)]; rfl); done) | ((rw [mvO_no4 ‹_›]); done) | trace_state)
  all_goals (first | ((rw [mvO_no (mvO_no1 ‹_›)]; rfl); done) | ((rw [mvO_no1 ‹_›]); done) | ((rw [mvO_no (mvO_no2 ‹_›)]; rfl); done) | ((rw [mvO_no2 ‹_›]); done) | ((rw [mvO_no (mvO_no3 ‹_›)]; rfl); done) | ((rw [mvO_no3 ‹_›]); done))
theorem sat_impl_MovePath : Sat Try.prog rt0 40 (wkIn spMvP) := sat_in (sat_out sat_impl_MovePath_0)
end Go.Proofs.Ytdkfamajaopgoaa
end
section
set_option maxRecDepth 100000
set_option linter.unusedSimpArgs false
set_option linter.unusedVariables false
namespace Go.Proofs.Ytdkfamajaopgoaa
open Go Go.VE
/-! What a move does to curves, polygons, boxes. -/
theorem mid_mv (x y : Int) (a b : Pt) : mid (mv x y a) (mv x y b) = mv x y (mid a b) := by
  simp only [mid, mv, Pt.mk.injEq]; omega
theorem mids_mv (x y : Int) : ∀ l : List Pt, mids (mvs l x y) = mvs (mids l) x y
  | [] => rfl
  | [_] => rfl
  | a :: b :: r => by
    have ih := mids_mv x y (b :: r)
    show mid (mv x y a) (mv x y b) :: mids (mvs (b :: r) x y) = mv x y (mid a b) :: mvs (mids (b :: r)) x y
    rw [mid_mv, ih]
theorem head_mv (x y : Int) {l : List Pt} (h : l ≠ []) : (mvs l x y).headD default = mv x y (l.headD default) := by
  cases l with
  | nil => exact absurd rfl h
  | cons a r => rfl
theorem last_mv (x y : Int) {l : List Pt} (h : l ≠ []) : (mvs l x y).getLastD default = mv x y (l.getLastD default) := by
  rw [List.getLastD_eq_getLast?, List.getLastD_eq_getLast?, mvs, List.getLast?_map]
  cases hl : l.getLast? with
  | none => rw [List.getLast?_eq_none_iff] at hl; exact absurd hl h
  | some a => rfl
theorem ne_len {l : List Pt} {n : Nat} (h : n + 1 ≤ l.length) : l ≠ [] := by rintro rfl; simp at h
theorem splF_mv (x y : Int) : ∀ (n : Nat) (c : List Pt), n ≤ c.length → splF n (mvs c x y) = mvs (splF n c) x y
  | 0, _, _ => rfl
  | n + 1, c, h => by
    show (mvs c x y).headD default :: splF n (mids (mvs c x y)) = mv x y (c.headD default) :: mvs (splF n (mids c)) x y
    rw [head_mv x y (ne_len h), mids_mv, splF_mv x y n (mids c) (by rw [mids_len]; omega)]
theorem mvs_app (a b : List Pt) (x y : Int) : mvs (a ++ b) x y = mvs a x y ++ mvs b x y := List.map_append ..
theorem splB_mv (x y : Int) : ∀ (n : Nat) (c : List Pt), n ≤ c.length → splB n (mvs c x y) = mvs (splB n c) x y
  | 0, _, _ => rfl
  | n + 1, c, h => by
    show splB n (mids (mvs c x y)) ++ [(mvs c x y).getLastD default] = mvs (splB n (mids c) ++ [c.getLastD default]) x y
    rw [last_mv x y (ne_len h), mids_mv, splB_mv x y n (mids c) (by rw [mids_len]; omega), mvs_app]; rfl
theorem lefts_mv (x y : Int) (c : List Pt) : lefts (mvs c x y) = mvs (lefts c) x y := by
  unfold lefts; rw [mvs_len]; exact splF_mv x y _ c (Nat.le_refl _)
theorem rights_mv (x y : Int) (c : List Pt) : rights (mvs c x y) = mvs (rights c) x y := by
  unfold rights; rw [mvs_len]; exact splB_mv x y _ c (Nat.le_refl _)
theorem bend2_mv (x y : Int) (a b c : Pt) : bend2 (mv x y a) (mv x y b) (mv x y c) = bend2 a b c := by
  have h1 : a.x + x - 2 * (b.x + x) + (c.x + x) = a.x - 2 * b.x + c.x := by omega
  have h2 : a.y + y - 2 * (b.y + y) + (c.y + y) = a.y - 2 * b.y + c.y := by omega
  simp only [bend2, mv, h1, h2]
theorem bendP_mv (x y : Int) : ∀ l : List Pt, bendP (mvs l x y) = bendP l
  | [] => rfl
  | [_] => rfl
  | [_, _] => rfl
  | a :: b :: c :: r => by
    have ih := bendP_mv x y (b :: c :: r)
    show max (bend2 (mv x y a) (mv x y b) (mv x y c)) (bendP (mvs (b :: c :: r) x y)) = _
    rw [bend2_mv, ih]; rfl
theorem lefts_ne {c : List Pt} (h : c ≠ []) : lefts c ≠ [] := fun e => h (List.eq_nil_of_length_eq_zero (by rw [← lefts_len c, e]; rfl))
theorem rights_ne {c : List Pt} (h : c ≠ []) : rights c ≠ [] := fun e => h (List.eq_nil_of_length_eq_zero (by rw [← rights_len c, e]; rfl))
theorem flatP_mv (x y : Int) : ∀ (d : Nat) (c : List Pt), c ≠ [] → flatP d (mvs c x y) = mvs (flatP d c) x y
  | 0, c, h => by
    show [(mvs c x y).getLastD default] = [mv x y (c.getLastD default)]
    rw [last_mv x y h]
  | d + 1, c, h => by
    unfold flatP
    rw [bendP_mv]
    split
    · rw [last_mv x y h]; rfl
    · rw [lefts_mv, rights_mv, flatP_mv x y d _ (lefts_ne h), flatP_mv x y d _ (rights_ne h), mvs_app]
theorem mvs_nil (l : List Pt) (x y : Int) : (mvs l x y = []) = (l = []) := by simp [mvs]
theorem mvL_app (a b : List (List Pt)) (x y : Int) : mvL (a ++ b) x y = mvL a x y ++ mvL b x y := List.map_append ..
theorem fold_mv {p : List Verb} (h : vPath p = true) (x y : Int) : ∀ n : Nat, n ≤ p.length → ringFold ((mvP p x y).take n) = (mvL (ringFold (p.take n)).1 x y, mvs (ringFold (p.take n)).2 x y)
  | 0, _ => rfl
  | n + 1, hn => by
    have ih := fold_mv h x y n (by omega)
    obtain ⟨v, hv⟩ : ∃ v, p[((n : Nat) : Int).toNat]? = some v := ⟨_, List.getElem?_eq_getElem (by omega)⟩
    have hv2 : (mvP p x y)[((n : Nat) : Int).toNat]? = some (mvV x y v) := by
      rw [mvP, List.getElem?_map, hv]; rfl
    have s1 := ringFold_step hv (by omega)
    have s2 := ringFold_step hv2 (by omega)
    have hpos := ring_pos h hv (by omega)
    have hb := vVerb_pts (vPath_at h (by omega) hv)
    simp only [Int.toNat_natCast, show ((n : Int) + 1).toNat = n + 1 by omega] at s1 s2 hpos
    rw [s1, s2, ih]
    generalize ringFold (p.take n) = s at hpos
    obtain ⟨o, m⟩ := s
    obtain ⟨k, ps⟩ := v
    dsimp only at hb hpos
    by_cases k0 : k = 0
    · subst k0
      have hl : ps.length = 1 := one_of hb.1
      obtain ⟨a, rfl⟩ := List.length_eq_one_iff.1 hl
      simp only [ringStep, mvV, if_true, mvs_nil]
      by_cases hm : m = []
      · rw [if_pos hm, if_pos hm]; rfl
      · rw [if_neg hm, if_neg hm, mvL_app]; rfl
    · by_cases k4 : k = 4
      · subst k4; rfl
      · have hm : m ≠ [] := ring_len1 (hpos k0)
        simp only [ringStep, mvV, if_neg k0, if_neg k4]
        have e : (mvs m x y).getLastD default :: mvs ps x y = mvs (m.getLastD default :: ps) x y := by rw [last_mv x y hm]; rfl
        rw [e, flatP_mv x y 3 _ (by simp), mvs_app]
        exact if_neg k4
theorem rings_mvP {p : List Verb} (h : vPath p = true) (x y : Int) : ringsOf (mvP p x y) = mvL (ringsOf p) x y := by
  have := fold_mv h x y p.length (Nat.le_refl _)
  rw [List.take_length, List.take_of_length_le (by rw [mvP_len]; exact Nat.le_refl _)] at this
  unfold ringsOf
  rw [this]
  simp only [mvs_nil]
  split
  · rfl
  · rw [mvL_app]; rfl
/-! All points of a valid path's polygons are valid. -/
def allV (l : List Pt) : Prop := ∀ p ∈ l, vPt p = true
theorem mid_v {a b : Pt} (ha : vPt a = true) (hb : vPt b = true) : vPt (mid a b) = true := by
  simp only [vPt, isU, Bool.and_eq_true, decide_eq_true_eq] at ha hb ⊢
  simp only [mid]
  omega
theorem mids_v : ∀ l : List Pt, allV l → allV (mids l)
  | [], _ => fun p hp => by cases hp
  | [_], _ => fun p hp => by cases hp
  | a :: b :: r, h => by
    intro p hp
    simp only [mids, List.mem_cons] at hp
    rcases hp with rfl | hp
    · exact mid_v (h _ (by simp)) (h _ (by simp))
    · exact mids_v (b :: r) (fun q hq => h q (List.mem_cons_of_mem _ hq)) p hp
theorem splF_v : ∀ n c, allV c → n ≤ c.length → allV (splF n c)
  | 0, _, _, _ => fun p hp => by cases hp
  | n + 1, c, h, hn => by
    intro p hp
    simp only [splF, List.mem_cons] at hp
    rcases hp with rfl | hp
    · cases c with
      | nil => simp at hn
      | cons a r => exact h a (by simp)
    · exact splF_v n (mids c) (mids_v c h) (by rw [mids_len]; omega) p hp
theorem splB_v : ∀ n c, allV c → n ≤ c.length → allV (splB n c)
  | 0, _, _, _ => fun p hp => by cases hp
  | n + 1, c, h, hn => by
    intro p hp
    simp only [splB, List.mem_append, List.mem_singleton] at hp
    rcases hp with hp | rfl
    · exact splB_v n (mids c) (mids_v c h) (by rw [mids_len]; omega) p hp
    · cases c with
      | nil => simp at hn
      | cons a r => exact h _ (last_mem a r)
theorem flatP_v : ∀ d c, allV c → c ≠ [] → allV (flatP d c)
  | 0, c, h, hc => by
    intro p hp
    simp only [flatP, List.mem_singleton] at hp
    subst hp
    cases c with
    | nil => exact absurd rfl hc
    | cons a r => exact h _ (last_mem a r)
  | d + 1, c, h, hc => by
    intro p hp
    unfold flatP at hp
    split at hp
    · simp only [List.mem_singleton] at hp
      subst hp
      cases c with
      | nil => exact absurd rfl hc
      | cons a r => exact h _ (last_mem a r)
    · rcases List.mem_append.1 hp with hp | hp
      · exact flatP_v d _ (splF_v _ c h (Nat.le_refl _)) (lefts_ne hc) p hp
      · exact flatP_v d _ (splB_v _ c h (Nat.le_refl _)) (rights_ne hc) p hp
theorem verb_v {p : List Verb} {n : Nat} {v : Verb} (h : vPath p = true) (hv : p[((n : Nat) : Int).toNat]? = some v) : allV v.ps := by
  have hb := vPath_at h (by omega) hv
  simp only [vVerb, vPts, Bool.and_eq_true, List.all_eq_true] at hb
  exact hb.1.2.2
theorem fold_v {p : List Verb} (h : vPath p = true) : ∀ n : Nat, n ≤ p.length → (∀ r ∈ (ringFold (p.take n)).1, allV r) ∧ allV (ringFold (p.take n)).2
  | 0, _ => ⟨fun r hr => by simp [ringFold] at hr, fun r hr => by simp [ringFold] at hr⟩
  | n + 1, hn => by
    obtain ⟨ih1, ih2⟩ := fold_v h n (by omega)
    obtain ⟨v, hv⟩ : ∃ v, p[((n : Nat) : Int).toNat]? = some v := ⟨_, List.getElem?_eq_getElem (by omega)⟩
    have s1 := ringFold_step hv (by omega)
    have hpos := ring_pos h hv (by omega)
    have hb := vVerb_pts (vPath_at h (by omega) hv)
    have hq := verb_v h hv
    simp only [Int.toNat_natCast, show ((n : Int) + 1).toNat = n + 1 by omega] at s1 hpos
    rw [s1]
    generalize ringFold (p.take n) = s at hpos ih1 ih2
    obtain ⟨o, m⟩ := s
    obtain ⟨k, ps⟩ := v
    dsimp only at hb hpos ih1 ih2 hq
    by_cases k0 : k = 0
    · subst k0
      have hl : ps.length = 1 := one_of hb.1
      obtain ⟨a, rfl⟩ := List.length_eq_one_iff.1 hl
      simp only [ringStep, if_true]
      refine ⟨fun r hr => ?_, hq⟩
      split at hr
      · exact ih1 r hr
      · rcases List.mem_append.1 hr with hr | hr
        · exact ih1 r hr
        · rw [List.mem_singleton] at hr; exact hr ▸ ih2
    · by_cases k4 : k = 4
      · subst k4; exact ⟨ih1, ih2⟩
      · have hm : m ≠ [] := ring_len1 (hpos k0)
        simp only [ringStep, if_neg k0, if_neg k4]
        refine ⟨ih1, fun q hq2 => ?_⟩
        rcases List.mem_append.1 hq2 with hq2 | hq2
        · exact ih2 q hq2
        · refine flatP_v 3 _ (fun z hz => ?_) (by simp) q hq2
          rcases List.mem_cons.1 hz with rfl | hz
          · cases m with
            | nil => exact absurd rfl hm
            | cons a r => exact ih2 _ (last_mem a r)
          · exact hq z hz
theorem rings_v {p : List Verb} (h : vPath p = true) : ∀ r ∈ ringsOf p, allV r := by
  have := fold_v h p.length (Nat.le_refl _)
  rw [List.take_length] at this
  intro r hr
  unfold ringsOf at hr
  split at hr
  · exact this.1 r hr
  · rcases List.mem_append.1 hr with hr | hr
    · exact this.1 r hr
    · rw [List.mem_singleton] at hr; exact hr ▸ this.2
theorem vRings_mv {p : List Verb} {x y : Int} (h : vPath p = true) (h2 : vPath (mvP p x y) = true) (hr : vRings (ringsOf p) = true) : vRings (ringsOf (mvP p x y)) = true := by
  have hv := rings_v h2
  rw [rings_mvP h] at hv ⊢
  simp only [vRings, Bool.and_eq_true, decide_eq_true_eq, mvL_len, mvL_total, List.all_eq_true] at hr ⊢
  refine ⟨⟨fun r hrm => ?_, hr.1.2⟩, hr.2⟩
  have ha := hv r hrm
  obtain ⟨q, hq, rfl⟩ := List.mem_map.1 hrm
  have h1 := hr.1.1 q hq
  simp only [vRing_iff, vPts, Bool.and_eq_true, decide_eq_true_eq, Bool.not_eq_true', decide_eq_false_iff_not, List.all_eq_true, mvs_len] at h1 ⊢
  exact ⟨h1.1, h1.2.1, ha⟩
/-! Boxes. -/
def shB (b : Bx) (x y : Int) : Bx := ⟨b.l + x, b.t + y, b.r + x, b.b + y⟩
theorem bnd1_mv (b : Bx) (p : Pt) (x y : Int) : bnd1 (shB b x y) (mv x y p) = shB (bnd1 b p) x y := by
  simp only [bnd1, shB, mv, Bx.mk.injEq]; omega
theorem fold_bnd (x y : Int) : ∀ (l : List Pt) (b : Bx), (mvs l x y).foldl bnd1 (shB b x y) = shB (l.foldl bnd1 b) x y
  | [], _ => rfl
  | p :: l, b => by
    show (mvs l x y).foldl bnd1 (bnd1 (shB b x y) (mv x y p)) = _
    rw [bnd1_mv, fold_bnd x y l]; rfl
theorem bnd_mv {l : List Pt} (h : l ≠ []) (x y : Int) : bnd (mvs l x y) = shB (bnd l) x y := by
  cases l with
  | nil => exact absurd rfl h
  | cons p l => exact fold_bnd x y (p :: l) ⟨p.x, p.y, p.x, p.y⟩
theorem pxB_sh (b : Bx) : pxB (shB b 16 (-16)) = ⟨(pxB b).l + 1, (pxB b).t - 1, (pxB b).r + 1, (pxB b).b - 1⟩ := by
  simp only [pxB, shB, Bx.mk.injEq]; omega
theorem mvL_flat (L : List (List Pt)) (x y : Int) : (mvL L x y).flatten = mvs L.flatten x y := by
  simp only [mvL, mvs, List.map_flatten]
theorem fb_move {f : Fil} (h : fbV f ≠ ⟨0, 0, 0, 0⟩) (hm : mvB f.p 16 (-16) = true) : fbV ⟨mvO f.p 16 (-16), f.rl, f.pn⟩ = ⟨(fbV f).l + 1, (fbV f).t - 1, (fbV f).r + 1, (fbV f).b - 1⟩ := by
  have hv : vFil f = true := by
    cases hh : vFil f with
    | true => rfl
    | false => exact absurd (by unfold fbV; rw [hh]; rfl) h
  have e0 : fbV f = flB f.p := by rw [fbV, if_pos hv]
  rw [e0] at h ⊢
  have hm0 := hm
  simp only [mvB, Bool.and_eq_true] at hm
  have e1 : mvO f.p 16 (-16) = mvP f.p 16 (-16) := if_pos hm0
  rw [e1]
  have hv0 := hv
  simp only [vFil, Bool.and_eq_true] at hv
  have hr := vRings_mv hm.1.1.1 hm.2 hv.1.1.2
  have hv2 : vFil ⟨mvP f.p 16 (-16), f.rl, f.pn⟩ = true := by
    simp only [vFil, Bool.and_eq_true]
    exact ⟨⟨⟨hm.2, hr⟩, hv.1.2⟩, hv.2⟩
  have e2 : fbV ⟨mvP f.p 16 (-16), f.rl, f.pn⟩ = flB (mvP f.p 16 (-16)) := by rw [fbV, if_pos hv2]
  rw [e2]
  have hne : (ringsOf f.p).flatten ≠ [] := fun e => h (if_pos e)
  have e3 : flB f.p = pxB (bnd (ringsOf f.p).flatten) := if_neg hne
  have e4 : flB (mvP f.p 16 (-16)) = pxB (bnd (mvs (ringsOf f.p).flatten 16 (-16))) := by
    unfold flB
    rw [rings_mvP hm.1.1.1, mvL_flat, if_neg (by rw [mvs_nil]; exact hne)]
  rw [e4, e3, bnd_mv hne, pxB_sh]
theorem mvO_len (p : List Verb) (x y : Int) : (mvO p x y).length ≤ 30 ∧ nPts (mvO p x y) ≤ 40 := by
  unfold mvO
  split
  · rename_i h
    simp only [mvB, Bool.and_eq_true] at h
    exact ⟨vPath_len h.2, vPath_pts h.2⟩
  · simp [nPts]
theorem fb_all (f : Fil) : ((-100000 ≤ (fbV f).l ∧ (fbV f).l ≤ 100000) ∧ -100000 ≤ (fbV f).t ∧ (fbV f).t ≤ 100000) ∧ (-100000 ≤ (fbV f).r ∧ (fbV f).r ≤ 100000) ∧ -100000 ≤ (fbV f).b ∧ (fbV f).b ≤ 100000 := by
  unfold fbV
  split
  · rename_i hv
    have hq := (vFil_pts hv).2.1
    unfold flB
    split
    · simp
    · have h1 := bnd_ok ‹_› (flat_units hq)
      simp only [vBx, decide_eq_true_eq] at h1
      simp only [pxB]
      omega
  · simp
theorem fb_ne {f : Fil} (h : ieq (bxC (fbV f)) [C.v (.int .i64 0), C.v (.int .i64 0), C.v (.int .i64 0), C.v (.int .i64 0)] = false) : fbV f ≠ ⟨0, 0, 0, 0⟩ := by
  have h1 : ieq (bxC (fbV f)) (bxC ⟨0, 0, 0, 0⟩) = false := h
  rw [bxC_ieq] at h1
  exact of_decide_eq_false h1
theorem fb_law {f : Fil} (h : ieq (bxC (fbV f)) [C.v (.int .i64 0), C.v (.int .i64 0), C.v (.int .i64 0), C.v (.int .i64 0)] = false) (hm : mvB f.p 16 (-16) = true) :
    ieq (bxC (fbV ⟨mvO f.p 16 (-16), f.rl, f.pn⟩)) [C.v (.int .i64 ((fbV f).l + 1)), C.v (.int .i64 ((fbV f).t - 1)), C.v (.int .i64 ((fbV f).r + 1)), C.v (.int .i64 ((fbV f).b - 1))] = true := by
  rw [fb_move (fb_ne h) hm]
  have e : ∀ b : Bx, ieq (bxC b) (bxC b) = true := fun b => by rw [bxC_ieq]; simp
  exact e _
theorem okF_mv {f : Fil} (h : okF f) (x y : Int) : okF ⟨mvO f.p x y, f.rl, f.pn⟩ := ⟨by have := (mvO_len f.p x y).1; dsimp only; omega, by have := (mvO_len f.p x y).2; dsimp only; omega, h.s⟩
end Go.Proofs.Ytdkfamajaopgoaa
end
section
set_option maxRecDepth 100000
set_option linter.unusedSimpArgs false
set_option linter.unusedVariables false
namespace Go.Proofs.Ytdkfamajaopgoaa
open Go Go.VE
def spDFil_A : (List UInt8) → List AV
  | code => [.c (.sl false (byC code))]
def spDFil_pre : (List UInt8) → Prop
  | code => code.length ≤ 1048576
def spDFil_post : (List UInt8) → AV → List Box → Prop
  | code, r, bs => ∃ f : Fil, r = .agg (flC f) ∧ bs = [] ∧ okF f
def spDFil : VE.Spec := famSpecS spDFil_A d_ly spDFil_pre spDFil_post 440 false
theorem spDFil_q : spDFil.flat = false ∧ spDFil.mt = [] ∧ spDFil.shut = true ∧ spDFil.cost = 440 ∧ (∀ a i, spDFil.pre a i = (i = [] ∧ famPre d_ly spDFil_A spDFil_pre a)) ∧ ∀ a i r b, spDFil.post a i r b = (famPost d_ly spDFil_post a r b) := ⟨rfl, rfl, rfl, rfl, fun _ _ => rfl, fun _ _ _ _ => rfl⟩
def tb37 : Nat → Option VE.Spec := tabOf [(46, wkIn spNew), (87, wkIn spAFil)]
theorem tb37_46 : tb37 46 = some (wkIn spNew) := rfl
theorem tb37_87 : tb37 87 = some (wkIn spAFil) := rfl
theorem tb37_ok : TabOK Try.prog rt0 tb37 := (tabOf_cons (by kernel_rfl) sat_spec_newReader (tabOf_cons (by kernel_rfl) sat_spec_anyFill tabOf_nil))
set_option maxHeartbeats 4000000 in
theorem sat_spec_DrawFillBox_0 : Sat Try.prog rt0 37 (wkOut spDFil) := by
  refine fn_sat hm ttok (tab := tb37) tb37_ok Try.func37 (c := Try.f37.body.getD .skip) (by kernel_rfl) (ts := [.cell 2 62]) (by kernel_rfl) Try.ntmps37 (sq := fun _ => true) (by kernel_rfl) ?_
  intro args ins pk hpre0 hpk
  obtain ⟨rfl, hpre0⟩ := hpre0
  obtain ⟨code, rfl, hpre, hdec⟩ := famPre_ex hpre0
  clear hpre0 hdec
  try simp only [spDFil_pre] at hpre
  replace hpk : pk + 440 ≤ pickLimit := hpk
  refine ⟨Nat.le_of_ble_eq_true rfl, ?_⟩
  simp (config := { maxSteps := 1000000 }) only [go_sem, ↓ifP_true, ↓ifP_false, ↓ifP_not, Nat.reduceLT, Nat.reduceAdd, Nat.reduceBEq, Nat.reduceSub, Nat.reduceLeDiff, Nat.reduceEqDiff, Nat.reduceMul, Int.reduceToNat, Int.reduceEq, Int.reduceLT, Int.reduceLE, Int.reduceAdd, Int.reduceSub, Int.reduceMul, reduceCtorEq, cond_true, cond_false, forall_eq', forall_eq, forall_const, implies_true, if_true, if_false, exists_eq_left', exists_eq', exists_eq, ne_eq, Try.f37, tb37_46, tb37_87, spDFil_q, spDFil_A, spDFil_pre, spDFil_post, spNew_q, spAFil_q, spAFil_A, spAFil_pre, spAFil_post]
  repeat' (first | apply And.intro | (intro _) | omega | assumption | with_reducible rfl)
  all_goals (first | (exact ⟨_, _, rfl, rfl, hpre⟩; done) | (trivial; done) | (assumption; done) | (exact ⟨_, rfl, ‹okF _›⟩; done))
theorem sat_spec_DrawFillBox : Sat Try.prog rt0 37 (wkIn spDFil) := sat_in (sat_out sat_spec_DrawFillBox_0)
end Go.Proofs.Ytdkfamajaopgoaa
end
