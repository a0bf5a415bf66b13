/- Contracts of functions of the program vectorraster, each proved for all states that fit its description. No conditions. -/
import Derived.Test.YtdkfamajaopgoaaED
import Derived.Test.YtdkfamajaopgoaaPE
import Derived.Test.YtdkfamajaopgoaaP3KQ
import Derived.Test.YtdkfamajaopgoaaPD
import Derived.Test.YtdkfamajaopgoaaPC
import Derived.Test.YtdkfamajaopgoaaPQ
import Derived.Test.YtdkfamajaopgoaaPO
import Derived.Shelf.Spec.SlicesGrow
import Derived.Test.YtdkfamajaopgoaaRows
set_option linter.unusedSimpArgs false
set_option linter.unusedVariables false
section
namespace Go.Proofs
open Go.Shelf
def Ytdkfamajaopgoaa.growP_ren : Go.Shelf.Ren := ⟨fun | 4 => 145 | n => n, fun | 22 => 74 | 25 => 57 | 3 => 3 | 4 => 4 | 9 => 9 | 20 => 20 | 0 => 0 | 2 => 3 | n => n, fun | n => n⟩
theorem Ytdkfamajaopgoaa.growP : Go.Proofs.Lays8.n4 Try.prog Ytdkfamajaopgoaa.growP_ren := {
  mixed := by kernel_rfl
  f4 := ⟨Try.f145.name, by decide, Try.func145.trans (congrArg some (by kernel_rfl))⟩
  t0 := Try.underlying0
  a0 := Try.isAgg0
  z0 := Try.sizeOf0
  v0 := Try.zeroValue0
  t3 := Try.underlying3
  a3 := Try.isAgg3
  z3 := Try.sizeOf3
  v3 := Try.zeroValue3
  t4 := Try.underlying4
  a4 := Try.isAgg4
  z4 := Try.sizeOf4
  v4 := Try.zeroValue4
  t9 := Try.underlying9
  a9 := Try.isAgg9
  z9 := Try.sizeOf9
  v9 := Try.zeroValue9
  t20 := Try.underlying20
  a20 := Try.isAgg20
  z20 := Try.sizeOf20
  v20 := Try.zeroValue20
  t22 := Try.underlying74
  a22 := Try.isAgg74
  z22 := Try.sizeOf74
  v22 := Try.zeroValue74 }
end Go.Proofs
end
section
set_option maxRecDepth 100000
set_option linter.unusedSimpArgs false
set_option linter.unusedVariables false
namespace Go.Proofs.Ytdkfamajaopgoaa
open Go Go.VE
theorem sat_slices_Grow_impl_Point_impl_Point_0 : Sat Try.prog rt0 145 (spGrow 2 57 1000000) := sat_grow (ρ := growP_ren) growP ttok (te := ⟨.struct [(3, 0, 1), (3, 1, 1)], 2, 16, [.int .i64 0, .int .i64 0], true⟩) rfl (by decide) (by decide) (by decide)
theorem sat_slices_Grow_impl_Point_impl_Point : Sat Try.prog rt0 145 (wkIn (spGrow 2 57 1000000)) := sat_in sat_slices_Grow_impl_Point_impl_Point_0
def spCct_A : (List (List Pt)) → List AV
  | L => [.c (.sl false (L.map lptC))]
def spCct_pre : (List (List Pt)) → Prop
  | L => total L ≤ 1000000 ∧ L.length ≤ 1000000
def spCct_post : (List (List Pt)) → AV → List Box → Prop
  | L, r, bs => r = .c (.own 0 (L.flatten).length false) ∧ bs = [⟨(L.flatten).map ptC, 2, 57, true, false⟩]
def spCct : VE.Spec := famSpec spCct_A d_llpt spCct_pre spCct_post 0 false
theorem spCct_q : spCct.flat = false ∧ spCct.mt = [] ∧ spCct.shut = false ∧ spCct.cost = 0 ∧ (∀ a i, spCct.pre a i = (i = [] ∧ famPre d_llpt spCct_A spCct_pre a)) ∧ ∀ a i r b, spCct.post a i r b = (famPost d_llpt spCct_post a r b) := ⟨rfl, rfl, rfl, rfl, fun _ _ => rfl, fun _ _ _ _ => rfl⟩
def tb121 : Nat → Option VE.Spec := tabOf [(145, (spGrow 2 57 1000000))]
theorem tb121_145 : tb121 145 = some ((spGrow 2 57 1000000)) := rfl
theorem tb121_ok : TabOK Try.prog rt0 tb121 := (tabOf_cons (by kernel_rfl) sat_slices_Grow_impl_Point_impl_Point_0 tabOf_nil)
set_option maxHeartbeats 4000000 in
theorem sat_slices_Concat_impl_Point_impl_Point_0 : Sat Try.prog rt0 121 (wkOut spCct) := by
  refine fn_sat hm ttok (tab := tb121) tb121_ok Try.func121 (c := Try.f121.body.getD .skip) (by kernel_rfl) (ts := [.tmp 2]) (by kernel_rfl) Try.ntmps121 (sq := fun _ => true) (by kernel_rfl) ?_
  intro args ins pk hpre0 hpk
  obtain ⟨rfl, hpre0⟩ := hpre0
  obtain ⟨L, rfl, hpre, hdec⟩ := famPre_ex hpre0
  clear hpre0 hdec
  try simp only [spCct_pre] at hpre
  replace hpk : pk + 0 ≤ pickLimit := hpk
  refine ⟨Nat.le_of_ble_eq_true rfl, ?_⟩
  simp (config := { maxSteps := 1000000 }) only [go_sem, ↓ifP_true, ↓ifP_false, ↓ifP_not, Nat.reduceLT, Nat.reduceAdd, Nat.reduceBEq, Nat.reduceSub, Nat.reduceLeDiff, Nat.reduceEqDiff, Nat.reduceMul, Int.reduceToNat, Int.reduceEq, Int.reduceLT, Int.reduceLE, Int.reduceAdd, Int.reduceSub, Int.reduceMul, reduceCtorEq, cond_true, cond_false, forall_eq', forall_eq, forall_const, implies_true, if_true, if_false, exists_eq_left', exists_eq', exists_eq, ne_eq, Try.f121, tb121_145, spCct_q, spCct_A, spCct_pre, spCct_post, spGrow_q]
  repeat' (first | apply And.intro | (intro _) | omega | assumption | with_reducible rfl)
  any_goals
    refine loopS (α := Int × Int) false [1, 3, 4, 5, 7, 11, 12, 13, 14, 15, 16, 17, 18, 19, 20, 21, 22, 28] (fun σ => []) (fun σ x => [(3, I x.1), (11, I x.2)]) (fun σ x => []) (fun (n, i) => 0) (fun σ => (gI (σ.get 3), gI (σ.get 11))) (fun σ τ => []) (fun (n, i) => (0 ≤ i ∧ i ≤ L.length) ∧ n = total (L.take i.toNat)) (fun (n, i) => (L.length - i).toNat) ⟨by (simp (config := { maxSteps := 1000000 }) only [go_sem, ↓ifP_true, ↓ifP_false, ↓ifP_not, Nat.reduceLT, Nat.reduceAdd, Nat.reduceBEq, Nat.reduceSub, Nat.reduceLeDiff, Nat.reduceEqDiff, Nat.reduceMul, Int.reduceToNat, Int.reduceEq, Int.reduceLT, Int.reduceLE, Int.reduceAdd, Int.reduceSub, Int.reduceMul, reduceCtorEq, cond_true, cond_false, forall_eq', forall_eq, forall_const, implies_true, if_true, if_false, exists_eq_left', exists_eq', exists_eq, ne_eq, Try.f121, tb121_145, spCct_q, spCct_A, spCct_pre, spCct_post, spGrow_q]; (repeat' (first | apply And.intro | (intro _) | omega | assumption | with_reducible rfl)); all_goals (first | rfl)), ?_⟩
    rintro ⟨n, i⟩ hinv
    try dsimp only at hinv
    rcases elemAt L i (by omega) with ⟨hlt, r, hk⟩ | hlt
    all_goals (first | ((have hlt2 := of_eq_true hlt); (have hT := total_mem hk); all_goals simp (config := { maxSteps := 1000000 }) only [go_sem, ↓ifP_true, ↓ifP_false, ↓ifP_not, Nat.reduceLT, Nat.reduceAdd, Nat.reduceBEq, Nat.reduceSub, Nat.reduceLeDiff, Nat.reduceEqDiff, Nat.reduceMul, Int.reduceToNat, Int.reduceEq, Int.reduceLT, Int.reduceLE, Int.reduceAdd, Int.reduceSub, Int.reduceMul, reduceCtorEq, cond_true, cond_false, forall_eq', forall_eq, forall_const, implies_true, if_true, if_false, exists_eq_left', exists_eq', exists_eq, ne_eq, Try.f121, tb121_145, spCct_q, spCct_A, spCct_pre, spCct_post, spGrow_q, hlt, hk]) | (have hlt2 := of_eq_false hlt; simp (config := { maxSteps := 1000000 }) only [go_sem, ↓ifP_true, ↓ifP_false, ↓ifP_not, Nat.reduceLT, Nat.reduceAdd, Nat.reduceBEq, Nat.reduceSub, Nat.reduceLeDiff, Nat.reduceEqDiff, Nat.reduceMul, Int.reduceToNat, Int.reduceEq, Int.reduceLT, Int.reduceLE, Int.reduceAdd, Int.reduceSub, Int.reduceMul, reduceCtorEq, cond_true, cond_false, forall_eq', forall_eq, forall_const, implies_true, if_true, if_false, exists_eq_left', exists_eq', exists_eq, ne_eq, Try.f121, tb121_145, spCct_q, spCct_A, spCct_pre, spCct_post, spGrow_q, hlt]))
    all_goals
      repeat' (first | apply And.intro | (intro _) | omega | assumption | with_reducible rfl)
  
  any_goals
    refine loopS (α := (List Pt) × Int) false [0, 1, 3, 4, 5, 6, 7, 8, 9, 10, 11, 12, 13, 14, 15, 16, 17, 18, 19, 20, 21, 22, 23, 24, 27, 28, 29, 30, 31, 32, 33, 34] (fun σ => [gId (σ.get 6)]) (fun σ x => [(6, .c (.own (gId (σ.get 6)) (x.1).length false)), (27, I x.2)]) (fun σ x => [(gId (σ.get 6), some ⟨(x.1).map ptC, 2, 57, true, false⟩)]) (fun (o, j) => 0) (fun σ => (gL ptCd σ (σ.get 6), gI (σ.get 27))) (fun σ τ => [(gId (σ.get 6), gId (τ.get 6))]) (fun (o, j) => (0 ≤ j ∧ j ≤ L.length) ∧ o = (L.take j.toNat).flatten) (fun (o, j) => (L.length - j).toNat) ⟨by (simp (config := { maxSteps := 1000000 }) only [go_sem, ↓ifP_true, ↓ifP_false, ↓ifP_not, Nat.reduceLT, Nat.reduceAdd, Nat.reduceBEq, Nat.reduceSub, Nat.reduceLeDiff, Nat.reduceEqDiff, Nat.reduceMul, Int.reduceToNat, Int.reduceEq, Int.reduceLT, Int.reduceLE, Int.reduceAdd, Int.reduceSub, Int.reduceMul, reduceCtorEq, cond_true, cond_false, forall_eq', forall_eq, forall_const, implies_true, if_true, if_false, exists_eq_left', exists_eq', exists_eq, ne_eq, Try.f121, tb121_145, spCct_q, spCct_A, spCct_pre, spCct_post, spGrow_q]; (repeat' (first | apply And.intro | (intro _) | omega | assumption | with_reducible rfl)); all_goals (first | rfl)), ?_⟩
    rintro ⟨o, j⟩ hinv
    try dsimp only at hinv
    rcases elemAt L j (by omega) with ⟨hlt, r, hk⟩ | hlt
    all_goals (first | ((have hlt2 := of_eq_true hlt); (have hT := total_mem hk); all_goals simp (config := { maxSteps := 1000000 }) only [go_sem, ↓ifP_true, ↓ifP_false, ↓ifP_not, Nat.reduceLT, Nat.reduceAdd, Nat.reduceBEq, Nat.reduceSub, Nat.reduceLeDiff, Nat.reduceEqDiff, Nat.reduceMul, Int.reduceToNat, Int.reduceEq, Int.reduceLT, Int.reduceLE, Int.reduceAdd, Int.reduceSub, Int.reduceMul, reduceCtorEq, cond_true, cond_false, forall_eq', forall_eq, forall_const, implies_true, if_true, if_false, exists_eq_left', exists_eq', exists_eq, ne_eq, Try.f121, tb121_145, spCct_q, spCct_A, spCct_pre, spCct_post, spGrow_q, hlt, hk]) | (have hlt2 := of_eq_false hlt; simp (config := { maxSteps := 1000000 }) only [go_sem, ↓ifP_true, ↓ifP_false, ↓ifP_not, Nat.reduceLT, Nat.reduceAdd, Nat.reduceBEq, Nat.reduceSub, Nat.reduceLeDiff, Nat.reduceEqDiff, Nat.reduceMul, Int.reduceToNat, Int.reduceEq, Int.reduceLT, Int.reduceLE, Int.reduceAdd, Int.reduceSub, Int.reduceMul, reduceCtorEq, cond_true, cond_false, forall_eq', forall_eq, forall_const, implies_true, if_true, if_false, exists_eq_left', exists_eq', exists_eq, ne_eq, Try.f121, tb121_145, spCct_q, spCct_A, spCct_pre, spCct_post, spGrow_q, hlt]))
    all_goals
    repeat' (first | apply And.intro | (intro _) | omega | assumption | with_reducible rfl)
  all_goals (first | ((rw [takeN hk hinv.1.1, total_snoc]; omega); done) | ((have h9 := total_take L i.toNat; exact ⟨n, by omega, by omega, rfl⟩); done) | ((obtain ⟨⟨h0, h1⟩, rfl⟩ := hinv; rw [flat_len]; omega); done) | ((obtain ⟨⟨h0, h1⟩, rfl⟩ := hinv; rw [takeN hk h0, flat_snoc]); done) | ((obtain ⟨⟨h0, h1⟩, rfl⟩ := hinv; rw [takeA (by omega)]); done) | (skip; done))
theorem sat_slices_Concat_impl_Point_impl_Point : Sat Try.prog rt0 121 (wkIn spCct) := sat_in (sat_out sat_slices_Concat_impl_Point_impl_Point_0)
end Go.Proofs.Ytdkfamajaopgoaa
end
section
set_option maxRecDepth 100000
set_option linter.unusedSimpArgs false
set_option linter.unusedVariables false
namespace Go.Proofs.Ytdkfamajaopgoaa
open Go Go.VE
def pxB (b : Bx) : Bx := ⟨b.l / 16, b.t / 16, b.r / 16 + 1, b.b / 16 + 1⟩
def emB (b : Bx) : Bool := decide (b.r ≤ b.l ∨ b.b ≤ b.t)
def jnB (a b : Bx) : Bx := if emB a = true then (if emB b = true then ⟨0, 0, 0, 0⟩ else b) else if emB b = true then a else ⟨min a.l b.l, min a.t b.t, max a.r b.r, max a.b b.b⟩
structure prpB (b : Bx) : Prop where
  d : b = ⟨0, 0, 0, 0⟩ ∨ b.l < b.r ∧ b.t < b.b
  n : (-1000000 ≤ b.l ∧ b.l ≤ 1000000) ∧ (-1000000 ≤ b.t ∧ b.t ≤ 1000000) ∧ (-1000000 ≤ b.r ∧ b.r ≤ 1000000) ∧ -1000000 ≤ b.b ∧ b.b ≤ 1000000
def ovB (c b : Bx) : Bool := decide (max b.l c.l < min b.r c.r ∧ max b.t c.t < min b.b c.b)
def tsN (b : Bx) (w h : Int) (k : Nat) : List Int := ((List.range k).filter fun j : Nat => ovB (tbox w h (j : Int)) b).map fun j : Nat => (j : Int)
theorem tsN_yes {b : Bx} {w h i : Int} (h0 : 0 ≤ i) (ho : ovB (tbox w h i) b = true) : tsN b w h i.toNat ++ [i] = tsN b w h (i + 1).toNat := by
  have e : (i.toNat : Int) = i := Int.toNat_of_nonneg h0
  rw [show (i + 1).toNat = i.toNat + 1 by omega, tsN, tsN, List.range_succ, List.filter_append, List.map_append]
  simp only [List.filter_cons, e, ho, if_true, List.filter_nil, List.map_cons, List.map_nil]
theorem tsN_no {b : Bx} {w h i : Int} (h0 : 0 ≤ i) (ho : ovB (tbox w h i) b = false) : tsN b w h i.toNat = tsN b w h (i + 1).toNat := by
  have e : (i.toNat : Int) = i := Int.toNat_of_nonneg h0
  rw [show (i + 1).toNat = i.toNat + 1 by omega, tsN, tsN, List.range_succ, List.filter_append, List.map_append]
  simp [e, ho]
theorem tsN_len (b : Bx) (w h : Int) (k : Nat) : (tsN b w h k).length ≤ k := by
  rw [tsN, List.length_map]
  exact Nat.le_trans (List.length_filter_le _ _) (by simp)
theorem tsN_mem {b : Bx} {w h t : Int} {k : Nat} (h0 : 0 ≤ t) (hk : t < k) (ho : ovB (tbox w h t) b = true) : t ∈ tsN b w h k := by
  refine List.mem_map.2 ⟨t.toNat, List.mem_filter.2 ⟨List.mem_range.2 (by omega), ?_⟩, Int.toNat_of_nonneg h0⟩
  rw [Int.toNat_of_nonneg h0]; exact ho
theorem bnd1_in (b : Bx) (p : Pt) : ((bnd1 b p).l ≤ b.l ∧ b.r ≤ (bnd1 b p).r ∧ (bnd1 b p).t ≤ b.t ∧ b.b ≤ (bnd1 b p).b) ∧ ((bnd1 b p).l ≤ p.x ∧ p.x ≤ (bnd1 b p).r) ∧ (bnd1 b p).t ≤ p.y ∧ p.y ≤ (bnd1 b p).b := by
  simp only [bnd1]; omega
theorem bndF_in : ∀ (l : List Pt) (b : Bx), ((l.foldl bnd1 b).l ≤ b.l ∧ b.r ≤ (l.foldl bnd1 b).r ∧ (l.foldl bnd1 b).t ≤ b.t ∧ b.b ≤ (l.foldl bnd1 b).b) ∧ ∀ p ∈ l, ((l.foldl bnd1 b).l ≤ p.x ∧ p.x ≤ (l.foldl bnd1 b).r) ∧ (l.foldl bnd1 b).t ≤ p.y ∧ p.y ≤ (l.foldl bnd1 b).b
  | [], b => ⟨⟨Int.le_refl _, Int.le_refl _, Int.le_refl _, Int.le_refl _⟩, fun p hp => by cases hp⟩
  | q :: l, b => by
    obtain ⟨h1, h2⟩ := bndF_in l (bnd1 b q)
    obtain ⟨g1, g2⟩ := bnd1_in b q
    rw [List.foldl_cons]
    generalize hB : l.foldl bnd1 (bnd1 b q) = B at *
    generalize bnd1 b q = c at *
    refine ⟨by omega, fun p hp => ?_⟩
    rcases List.mem_cons.1 hp with rfl | hp
    · omega
    · exact h2 p hp
theorem bndF_bd : ∀ (l : List Pt) (b : Bx), (∀ p ∈ l, (-1000 ≤ p.x ∧ p.x ≤ 1000) ∧ -1000 ≤ p.y ∧ p.y ≤ 1000) → ((-1000 ≤ b.l ∧ b.r ≤ 1000) ∧ -1000 ≤ b.t ∧ b.b ≤ 1000) → (-1000 ≤ (l.foldl bnd1 b).l ∧ (l.foldl bnd1 b).r ≤ 1000) ∧ -1000 ≤ (l.foldl bnd1 b).t ∧ (l.foldl bnd1 b).b ≤ 1000
  | [], b, _, h => h
  | q :: l, b, hl, h => by
    have hq := hl q (by simp)
    refine bndF_bd l (bnd1 b q) (fun p hp => hl p (by simp [hp])) ?_
    simp only [bnd1]; omega
theorem bnd_in {l : List Pt} : ∀ p ∈ l, ((bnd l).l ≤ p.x ∧ p.x ≤ (bnd l).r) ∧ (bnd l).t ≤ p.y ∧ p.y ≤ (bnd l).b := by
  intro p hp
  cases l with
  | nil => cases hp
  | cons a l =>
    rw [bnd_of (k := a) rfl]
    exact (bndF_in (a :: l) _).2 p hp
theorem bnd_ok {l : List Pt} (hn : l ≠ []) (h : ∀ p ∈ l, (-1000 ≤ p.x ∧ p.x ≤ 1000) ∧ -1000 ≤ p.y ∧ p.y ≤ 1000) : vBx (bnd l) = true := by
  cases l with
  | nil => exact absurd rfl hn
  | cons a l =>
    have h0 := h a (by simp)
    have h1 := bnd_in a (show a ∈ a :: l by simp)
    have h2 := bndF_bd (a :: l) ⟨a.x, a.y, a.x, a.y⟩ h (by dsimp only; omega)
    rw [← bnd_of (k := a) rfl] at h2
    simp only [vBx, decide_eq_true_eq]; omega
theorem flat_units {L : List (List Pt)} (h : vRings L = true) : ∀ p ∈ L.flatten, (-1000 ≤ p.x ∧ p.x ≤ 1000) ∧ -1000 ≤ p.y ∧ p.y ≤ 1000 := by
  intro p hp
  obtain ⟨r, hr, hm⟩ := List.mem_flatten.1 hp
  simp only [vRings, Bool.and_eq_true, List.all_eq_true] at h
  have h1 := h.1.1 r hr
  simp only [vRing, vPts, Bool.and_eq_true, List.all_eq_true] at h1
  have h2 := h1.2.2 p hm
  simpa [vPt, isU] using h2
theorem prp_em {a : Bx} (h : prpB a) : emB a = decide (a.l = a.r ∨ a.t = a.b) := by
  rcases h.1 with rfl | ⟨h1, h2⟩
  · rfl
  · simp only [emB, decide_eq_decide]; omega
theorem tidy_em (b : Bx) : (if b.l ≥ b.r ∨ b.t ≥ b.b then (⟨0, 0, 0, 0⟩ : Bx) else b) = if emB b = true then ⟨0, 0, 0, 0⟩ else b := by
  by_cases h : b.r ≤ b.l ∨ b.b ≤ b.t
  · rw [if_pos (by omega), if_pos (by rw [emB, decide_eq_true h])]
  · rw [if_neg (by omega), if_neg (by rw [emB, decide_eq_false h]; decide)]
theorem jn_1 {a b : Bx} (ha : prpB a) (hb : prpB b) (h : a.l = a.r ∨ a.t = a.b) : (if b.l ≥ b.r ∨ b.t ≥ b.b then (⟨0, 0, 0, 0⟩ : Bx) else b) = jnB a b := by
  have e : emB a = true := by rw [prp_em ha, decide_eq_true h]
  rw [tidy_em, jnB, e, if_pos rfl]
theorem jn_2 {a b : Bx} (ha : prpB a) (hb : prpB b) (h : ¬ (a.l = a.r ∨ a.t = a.b)) (h2 : b.l = b.r ∨ b.t = b.b) : (if a.l ≥ a.r ∨ a.t ≥ a.b then (⟨0, 0, 0, 0⟩ : Bx) else a) = jnB a b := by
  have e : ¬ emB a = true := by rw [prp_em ha, decide_eq_false h]; decide
  rw [tidy_em, jnB, if_neg e, if_neg e, if_pos (by rw [prp_em hb, decide_eq_true h2])]
theorem jn_3 {a b : Bx} (ha : prpB a) (hb : prpB b) (h : ¬ (a.l = a.r ∨ a.t = a.b)) (h2 : ¬ (b.l = b.r ∨ b.t = b.b)) : [C.v (.int .i64 (min a.l b.l)), C.v (.int .i64 (min a.t b.t)), C.v (.int .i64 (max a.r b.r)), C.v (.int .i64 (max a.b b.b))] = bxC (jnB a b) := by
  rw [jnB, if_neg (by rw [prp_em ha, decide_eq_false h]; decide), if_neg (by rw [prp_em hb, decide_eq_false h2]; decide)]; rfl
def flB (p : List Verb) : Bx := if (ringsOf p).flatten = [] then ⟨0, 0, 0, 0⟩ else pxB (bnd (ringsOf p).flatten)
theorem flB_prp {p : List Verb} (h : vRings (ringsOf p) = true) : prpB (flB p) := by
  unfold flB
  split
  · exact ⟨.inl rfl, by simp⟩
  · have h1 := bnd_ok ‹_› (flat_units h)
    simp only [vBx, decide_eq_true_eq] at h1
    refine ⟨.inr ?_, ?_⟩ <;> simp only [pxB] <;> omega
def spEmB_A : Bx → List AV
  | b => [.agg (bxC b)]
def spEmB_pre : Bx → Prop
  | b => True
def spEmB_post : Bx → AV → List Box → Prop
  | b, r, bs => r = B (emB b) ∧ bs = []
def spEmB : VE.Spec := famSpec spEmB_A d_bx spEmB_pre spEmB_post 0 true
theorem spEmB_q : spEmB.flat = true ∧ spEmB.mt = [] ∧ spEmB.shut = false ∧ spEmB.cost = 0 ∧ (∀ a i, spEmB.pre a i = (i = [] ∧ famPre d_bx spEmB_A spEmB_pre a)) ∧ ∀ a i r b, spEmB.post a i r b = (famPost d_bx spEmB_post a r b) := ⟨rfl, rfl, rfl, rfl, fun _ _ => rfl, fun _ _ _ _ => rfl⟩
def spPxB_A : Bx → List AV
  | b => [.agg (bxC b)]
def spPxB_pre : Bx → Prop
  | b => vBx b = true
def spPxB_post : Bx → AV → List Box → Prop
  | b, r, bs => r = .agg (bxC (pxB b)) ∧ bs = []
def spPxB : VE.Spec := famSpec spPxB_A d_bx spPxB_pre spPxB_post 0 true
theorem spPxB_q : spPxB.flat = true ∧ spPxB.mt = [] ∧ spPxB.shut = false ∧ spPxB.cost = 0 ∧ (∀ a i, spPxB.pre a i = (i = [] ∧ famPre d_bx spPxB_A spPxB_pre a)) ∧ ∀ a i r b, spPxB.post a i r b = (famPost d_bx spPxB_post a r b) := ⟨rfl, rfl, rfl, rfl, fun _ _ => rfl, fun _ _ _ _ => rfl⟩
def tb146 : Nat → Option VE.Spec := tabOf [(91, wkIn spIsU)]
theorem tb146_91 : tb146 91 = some (wkIn spIsU) := rfl
theorem tb146_ok : TabOK Try.prog rt0 tb146 := (tabOf_cons (by kernel_rfl) sat_impl_isUnit tabOf_nil)
set_option maxHeartbeats 4000000 in
theorem sat_impl_Box_valid_0 : Sat Try.prog rt0 146 (wkOut spVBx) := by
  refine fn_sat hm ttok (tab := tb146) tb146_ok Try.func146 (c := Try.f146.body.getD .skip) (by kernel_rfl) (ts := [.tmp 2]) (by kernel_rfl) Try.ntmps146 (sq := fun _ => true) (by kernel_rfl) ?_
  intro args ins pk hpre0 hpk
  obtain ⟨rfl, hpre0⟩ := hpre0
  obtain ⟨b, rfl, hpre, hdec⟩ := famPre_ex hpre0
  clear hpre0 hdec
  try simp only [spVBx_pre] at hpre
  replace hpk : pk + 0 ≤ pickLimit := hpk
  refine ⟨Nat.le_of_ble_eq_true rfl, ?_⟩
  simp (config := { maxSteps := 1000000 }) only [go_sem, ↓ifP_true, ↓ifP_false, ↓ifP_not, Nat.reduceLT, Nat.reduceAdd, Nat.reduceBEq, Nat.reduceSub, Nat.reduceLeDiff, Nat.reduceEqDiff, Nat.reduceMul, Int.reduceToNat, Int.reduceEq, Int.reduceLT, Int.reduceLE, Int.reduceAdd, Int.reduceSub, Int.reduceMul, reduceCtorEq, cond_true, cond_false, forall_eq', forall_eq, forall_const, implies_true, if_true, if_false, exists_eq_left', exists_eq', exists_eq, ne_eq, Try.f146, tb146_91, spVBx_q, spVBx_A, spVBx_pre, spVBx_post, spIsU_q, spIsU_A, spIsU_pre, spIsU_post, vBx, isU]
  repeat' (first | apply And.intro | (intro _) | omega | assumption | with_reducible rfl)
  all_goals (first | ((simp only [decide_eq_decide, true_eq_decide_iff, false_eq_decide_iff, Bool.not_eq_eq_eq_not, Bool.not_true, Bool.not_false]; omega); done) | (grind; done))
theorem sat_impl_Box_valid : Sat Try.prog rt0 146 (wkIn spVBx) := sat_in (sat_out sat_impl_Box_valid_0)
def tb122 : Nat → Option VE.Spec := tabOf [(146, wkIn spVBx), (147, wkIn spFloor)]
theorem tb122_146 : tb122 146 = some (wkIn spVBx) := rfl
theorem tb122_147 : tb122 147 = some (wkIn spFloor) := rfl
theorem tb122_ok : TabOK Try.prog rt0 tb122 := (tabOf_cons (by kernel_rfl) sat_impl_Box_valid (tabOf_cons (by kernel_rfl) sat_impl_floor tabOf_nil))
set_option maxHeartbeats 4000000 in
theorem sat_impl_PixelBox_0 : Sat Try.prog rt0 122 (wkOut spPxB) := by
  refine fn_sat hm ttok (tab := tb122) tb122_ok Try.func122 (c := Try.f122.body.getD .skip) (by kernel_rfl) (ts := [.cell 2 50]) (by kernel_rfl) Try.ntmps122 (sq := fun id => !(id == 3)) (by kernel_rfl) ?_
  intro args ins pk hpre0 hpk
  obtain ⟨rfl, hpre0⟩ := hpre0
  obtain ⟨b, rfl, hpre, hdec⟩ := famPre_ex hpre0
  clear hpre0 hdec
  try simp only [spPxB_pre] at hpre
  replace hpk : pk + 0 ≤ pickLimit := hpk
  refine ⟨Nat.le_of_ble_eq_true rfl, ?_⟩
  have hb := hpre
  simp only [vBx, decide_eq_true_eq] at hb
  simp (config := { maxSteps := 1000000 }) only [go_sem, ↓ifP_true, ↓ifP_false, ↓ifP_not, Nat.reduceLT, Nat.reduceAdd, Nat.reduceBEq, Nat.reduceSub, Nat.reduceLeDiff, Nat.reduceEqDiff, Nat.reduceMul, Int.reduceToNat, Int.reduceEq, Int.reduceLT, Int.reduceLE, Int.reduceAdd, Int.reduceSub, Int.reduceMul, reduceCtorEq, cond_true, cond_false, forall_eq', forall_eq, forall_const, implies_true, if_true, if_false, exists_eq_left', exists_eq', exists_eq, ne_eq, Try.f122, tb122_146, tb122_147, spPxB_q, spPxB_A, spPxB_pre, spPxB_post, spVBx_q, spVBx_A, spVBx_pre, spVBx_post, spFloor_q, spFloor_A, spFloor_pre, spFloor_post]
  repeat' (first | apply And.intro | (intro _) | omega | assumption | with_reducible rfl)
  all_goals try (refine drawI (VE.Plan.first 0 (VE.Plan.first 1 (VE.Plan.first 3 (VE.Plan.first 4 (VE.Plan.first 6 (VE.Plan.first 7 (VE.Plan.first 10 (VE.Plan.first 11 (VE.Plan.alt 2 (VE.Plan.alt 5 (VE.Plan.alt 8 (VE.Plan.first 9 (VE.Plan.alt 12 (VE.Plan.first 13 (VE.Plan.first 14 (VE.Plan.alt 15 VE.Plan.nil VE.Plan.nil))) VE.Plan.nil)) VE.Plan.nil) VE.Plan.nil) VE.Plan.nil))))))))) (by decide +kernel) ?_; simp (config := { maxSteps := 1000000 }) only [go_sem, ↓ifP_true, ↓ifP_false, ↓ifP_not, Nat.reduceLT, Nat.reduceAdd, Nat.reduceBEq, Nat.reduceSub, Nat.reduceLeDiff, Nat.reduceEqDiff, Nat.reduceMul, Int.reduceToNat, Int.reduceEq, Int.reduceLT, Int.reduceLE, Int.reduceAdd, Int.reduceSub, Int.reduceMul, reduceCtorEq, cond_true, cond_false, forall_eq', forall_eq, forall_const, implies_true, if_true, if_false, exists_eq_left', exists_eq', exists_eq, ne_eq, planW, stepW, Try.f122, tb122_146, tb122_147, spPxB_q, spPxB_A, spPxB_pre, spPxB_post, spVBx_q, spVBx_A, spVBx_pre, spVBx_post, spFloor_q, spFloor_A, spFloor_pre, spFloor_post]; repeat' (first | apply And.intro | (intro _) | omega | assumption | with_reducible rfl))
  all_goals (first | (omega; done) | (rfl; done) | ((exfalso; simp_all; done); done) | (simp [pxB, *]; done))
theorem sat_impl_PixelBox : Sat Try.prog rt0 122 (wkIn spPxB) := sat_in (sat_out sat_impl_PixelBox_0)
def tb125 : Nat → Option VE.Spec := tabOf [(149, wkIn spFloor)]
theorem tb125_149 : tb125 149 = some (wkIn spFloor) := rfl
theorem tb125_ok : TabOK Try.prog rt0 tb125 := (tabOf_cons (by kernel_rfl) sat_spec_floorDiv tabOf_nil)
set_option maxHeartbeats 4000000 in
theorem sat_spec_pixelBox_0 : Sat Try.prog rt0 125 (wkOut spPxB) := by
  refine fn_sat hm ttok (tab := tb125) tb125_ok Try.func125 (c := Try.f125.body.getD .skip) (by kernel_rfl) (ts := [.cell 2 50]) (by kernel_rfl) Try.ntmps125 (sq := fun id => !(id == 1)) (by kernel_rfl) ?_
  intro args ins pk hpre0 hpk
  obtain ⟨rfl, hpre0⟩ := hpre0
  obtain ⟨b, rfl, hpre, hdec⟩ := famPre_ex hpre0
  clear hpre0 hdec
  try simp only [spPxB_pre] at hpre
  replace hpk : pk + 0 ≤ pickLimit := hpk
  refine ⟨Nat.le_of_ble_eq_true rfl, ?_⟩
  have hb := hpre
  simp only [vBx, decide_eq_true_eq] at hb
  simp (config := { maxSteps := 1000000 }) only [go_sem, ↓ifP_true, ↓ifP_false, ↓ifP_not, Nat.reduceLT, Nat.reduceAdd, Nat.reduceBEq, Nat.reduceSub, Nat.reduceLeDiff, Nat.reduceEqDiff, Nat.reduceMul, Int.reduceToNat, Int.reduceEq, Int.reduceLT, Int.reduceLE, Int.reduceAdd, Int.reduceSub, Int.reduceMul, reduceCtorEq, cond_true, cond_false, forall_eq', forall_eq, forall_const, implies_true, if_true, if_false, exists_eq_left', exists_eq', exists_eq, ne_eq, Try.f125, tb125_149, spPxB_q, spPxB_A, spPxB_pre, spPxB_post, spFloor_q, spFloor_A, spFloor_pre, spFloor_post]
  repeat' (first | apply And.intro | (intro _) | omega | assumption | with_reducible rfl)
  all_goals try (refine drawI (VE.Plan.first 0 (VE.Plan.first 1 (VE.Plan.first 3 (VE.Plan.first 4 (VE.Plan.first 6 (VE.Plan.first 7 (VE.Plan.first 10 (VE.Plan.first 11 (VE.Plan.alt 2 (VE.Plan.alt 5 (VE.Plan.alt 8 (VE.Plan.first 9 (VE.Plan.alt 12 (VE.Plan.first 13 (VE.Plan.first 14 (VE.Plan.alt 15 VE.Plan.nil VE.Plan.nil))) VE.Plan.nil)) VE.Plan.nil) VE.Plan.nil) VE.Plan.nil))))))))) (by decide +kernel) ?_; simp (config := { maxSteps := 1000000 }) only [go_sem, ↓ifP_true, ↓ifP_false, ↓ifP_not, Nat.reduceLT, Nat.reduceAdd, Nat.reduceBEq, Nat.reduceSub, Nat.reduceLeDiff, Nat.reduceEqDiff, Nat.reduceMul, Int.reduceToNat, Int.reduceEq, Int.reduceLT, Int.reduceLE, Int.reduceAdd, Int.reduceSub, Int.reduceMul, reduceCtorEq, cond_true, cond_false, forall_eq', forall_eq, forall_const, implies_true, if_true, if_false, exists_eq_left', exists_eq', exists_eq, ne_eq, planW, stepW, Try.f125, tb125_149, spPxB_q, spPxB_A, spPxB_pre, spPxB_post, spFloor_q, spFloor_A, spFloor_pre, spFloor_post]; repeat' (first | apply And.intro | (intro _) | omega | assumption | with_reducible rfl))
  all_goals (first | (omega; done) | (rfl; done) | (simp [pxB, *]; done))
theorem sat_spec_pixelBox : Sat Try.prog rt0 125 (wkIn spPxB) := sat_in (sat_out sat_spec_pixelBox_0)
def spJnB_A : Bx × Bx → List AV
  | (a, b) => [.agg (bxC a), .agg (bxC b)]
def spJnB_pre : Bx × Bx → Prop
  | (a, b) => prpB a ∧ prpB b
def spJnB_post : Bx × Bx → AV → List Box → Prop
  | (a, b), r, bs => r = .agg (bxC (jnB a b)) ∧ bs = []
def spJnB : VE.Spec := famSpec spJnB_A d_bx_bx spJnB_pre spJnB_post 0 true
theorem spJnB_q : spJnB.flat = true ∧ spJnB.mt = [] ∧ spJnB.shut = false ∧ spJnB.cost = 0 ∧ (∀ a i, spJnB.pre a i = (i = [] ∧ famPre d_bx_bx spJnB_A spJnB_pre a)) ∧ ∀ a i r b, spJnB.post a i r b = (famPost d_bx_bx spJnB_post a r b) := ⟨rfl, rfl, rfl, rfl, fun _ _ => rfl, fun _ _ _ _ => rfl⟩
end Go.Proofs.Ytdkfamajaopgoaa
end
section
set_option maxRecDepth 100000
set_option linter.unusedSimpArgs false
set_option linter.unusedVariables false
namespace Go.Proofs.Ytdkfamajaopgoaa
open Go Go.VE
def spFlB_A : Fil → List AV
  | f => [.agg (flC f)]
def spFlB_pre : Fil → Prop
  | f => okF f ∧ vFil f = true
def spFlB_post : Fil → AV → List Box → Prop
  | f, r, bs => r = .agg (bxC (flB f.p)) ∧ bs = []
def spFlB : VE.Spec := famSpec spFlB_A d_fl spFlB_pre spFlB_post 0 true
theorem spFlB_q : spFlB.flat = true ∧ spFlB.mt = [] ∧ spFlB.shut = false ∧ spFlB.cost = 0 ∧ (∀ a i, spFlB.pre a i = (i = [] ∧ famPre d_fl spFlB_A spFlB_pre a)) ∧ ∀ a i r b, spFlB.post a i r b = (famPost d_fl spFlB_post a r b) := ⟨rfl, rfl, rfl, rfl, fun _ _ => rfl, fun _ _ _ _ => rfl⟩
theorem vFil_pts {f : Fil} (h : vFil f = true) : vPath f.p = true ∧ vRings (ringsOf f.p) = true ∧ (ringsOf f.p).length ≤ 31 ∧ total (ringsOf f.p) ≤ 1000000 := by
  simp only [vFil, Bool.and_eq_true] at h
  have h1 := rings_ok h.1.1.1
  have h2 := rings_total h.1.1.1
  exact ⟨h.1.1.1, h.1.1.2, h1.2.1, by omega⟩
theorem flB_0 {p : List Verb} (h : ((ringsOf p).flatten.length : Int) = 0) : flB p = ⟨0, 0, 0, 0⟩ := if_pos (List.eq_nil_of_length_eq_zero (by omega))
theorem fl_ne {l : List Pt} (h : ¬ (l.length : Int) = 0) : l ≠ [] := by rintro rfl; simp at h
theorem flB_1 {p : List Verb} (h : ¬ ((ringsOf p).flatten.length : Int) = 0) : flB p = pxB (bnd (ringsOf p).flatten) := if_neg (fl_ne h)
def fbV (f : Fil) : Bx := if vFil f = true then flB f.p else ⟨0, 0, 0, 0⟩
def spFbV_A : Fil → List AV
  | f => [.agg (flC f)]
def spFbV_pre : Fil → Prop
  | f => okF f
def spFbV_post : Fil → AV → List Box → Prop
  | f, r, bs => r = .agg (bxC (fbV f)) ∧ bs = []
def spFbV : VE.Spec := famSpec spFbV_A d_fl spFbV_pre spFbV_post 0 true
theorem spFbV_q : spFbV.flat = true ∧ spFbV.mt = [] ∧ spFbV.shut = false ∧ spFbV.cost = 0 ∧ (∀ a i, spFbV.pre a i = (i = [] ∧ famPre d_fl spFbV_A spFbV_pre a)) ∧ ∀ a i r b, spFbV.post a i r b = (famPost d_fl spFbV_post a r b) := ⟨rfl, rfl, rfl, rfl, fun _ _ => rfl, fun _ _ _ _ => rfl⟩
def tb88 : Nat → Option VE.Spec := tabOf [(48, wkIn spRings), (121, wkIn spCct), (82, wkIn spBnd), (122, wkIn spPxB)]
theorem tb88_48 : tb88 48 = some (wkIn spRings) := rfl
theorem tb88_121 : tb88 121 = some (wkIn spCct) := rfl
theorem tb88_82 : tb88 82 = some (wkIn spBnd) := rfl
theorem tb88_122 : tb88 122 = some (wkIn spPxB) := rfl
theorem tb88_ok : TabOK Try.prog rt0 tb88 := (tabOf_cons (by kernel_rfl) sat_impl_rings (tabOf_cons (by kernel_rfl) sat_slices_Concat_impl_Point_impl_Point (tabOf_cons (by kernel_rfl) sat_impl_boxOf (tabOf_cons (by kernel_rfl) sat_impl_PixelBox tabOf_nil))))
set_option maxHeartbeats 4000000 in
theorem sat_impl_Fill_box_0 : Sat Try.prog rt0 88 (wkOut spFlB) := by
  refine fn_sat hm ttok (tab := tb88) tb88_ok Try.func88 (c := Try.f88.body.getD .skip) (by kernel_rfl) (ts := [.cell 2 50]) (by kernel_rfl) Try.ntmps88 (sq := fun _ => true) (by kernel_rfl) ?_
  intro args ins pk hpre0 hpk
  obtain ⟨rfl, hpre0⟩ := hpre0
  obtain ⟨f, rfl, hpre, hdec⟩ := famPre_ex hpre0
  clear hpre0 hdec
  try simp only [spFlB_pre] at hpre
  replace hpk : pk + 0 ≤ pickLimit := hpk
  refine ⟨Nat.le_of_ble_eq_true rfl, ?_⟩
  obtain ⟨hv1, hv2, hv3, hv4⟩ := vFil_pts hpre.2
  have hun := flat_units hv2
  have hfl := flat_len (ringsOf f.p)
  simp (config := { maxSteps := 1000000 }) only [go_sem, ↓ifP_true, ↓ifP_false, ↓ifP_not, Nat.reduceLT, Nat.reduceAdd, Nat.reduceBEq, Nat.reduceSub, Nat.reduceLeDiff, Nat.reduceEqDiff, Nat.reduceMul, Int.reduceToNat, Int.reduceEq, Int.reduceLT, Int.reduceLE, Int.reduceAdd, Int.reduceSub, Int.reduceMul, reduceCtorEq, cond_true, cond_false, forall_eq', forall_eq, forall_const, implies_true, if_true, if_false, exists_eq_left', exists_eq', exists_eq, ne_eq, Try.f88, tb88_48, tb88_121, tb88_82, tb88_122, spFlB_q, spFlB_A, spFlB_pre, spFlB_post, spRings_q, spRings_A, spRings_pre, spRings_post, spCct_q, spCct_A, spCct_pre, spCct_post, spBnd_q, spBnd_A, spBnd_pre, spBnd_post, spPxB_q, spPxB_A, spPxB_pre, spPxB_post]
  repeat' (first | apply And.intro | (intro _) | omega | assumption | with_reducible rfl)
  all_goals (first | (exact hv1; done) | ((rw [hfl]; omega); done) | (omega; done) | (exact bnd_ok (fl_ne ‹_›) hun; done) | ((rw [flB_0 ‹_›]; rfl); done) | ((rw [flB_1 ‹_›]); done))
theorem sat_impl_Fill_box : Sat Try.prog rt0 88 (wkIn spFlB) := sat_in (sat_out sat_impl_Fill_box_0)
end Go.Proofs.Ytdkfamajaopgoaa
end
section
set_option maxRecDepth 100000
set_option linter.unusedSimpArgs false
set_option linter.unusedVariables false
namespace Go.Proofs.Ytdkfamajaopgoaa
open Go Go.VE
def tb90 : Nat → Option VE.Spec := tabOf [(52, wkIn spRings), (124, wkIn spCorners), (126, wkIn spBnd), (125, wkIn spPxB)]
theorem tb90_52 : tb90 52 = some (wkIn spRings) := rfl
theorem tb90_124 : tb90 124 = some (wkIn spCorners) := rfl
theorem tb90_126 : tb90 126 = some (wkIn spBnd) := rfl
theorem tb90_125 : tb90 125 = some (wkIn spPxB) := rfl
theorem tb90_ok : TabOK Try.prog rt0 tb90 := (tabOf_cons (by kernel_rfl) sat_spec_rings (tabOf_cons (by kernel_rfl) sat_spec_corners (tabOf_cons (by kernel_rfl) sat_spec_bounds (tabOf_cons (by kernel_rfl) sat_spec_pixelBox tabOf_nil))))
set_option maxHeartbeats 4000000 in
theorem sat_spec_fillBox_0 : Sat Try.prog rt0 90 (wkOut spFlB) := by
  refine fn_sat hm ttok (tab := tb90) tb90_ok Try.func90 (c := Try.f90.body.getD .skip) (by kernel_rfl) (ts := [.cell 2 50]) (by kernel_rfl) Try.ntmps90 (sq := fun _ => true) (by kernel_rfl) ?_
  intro args ins pk hpre0 hpk
  obtain ⟨rfl, hpre0⟩ := hpre0
  obtain ⟨f, rfl, hpre, hdec⟩ := famPre_ex hpre0
  clear hpre0 hdec
  try simp only [spFlB_pre] at hpre
  replace hpk : pk + 0 ≤ pickLimit := hpk
  refine ⟨Nat.le_of_ble_eq_true rfl, ?_⟩
  obtain ⟨hv1, hv2, hv3, hv4⟩ := vFil_pts hpre.2
  have hun := flat_units hv2
  have hfl := flat_len (ringsOf f.p)
  simp (config := { maxSteps := 1000000 }) only [go_sem, ↓ifP_true, ↓ifP_false, ↓ifP_not, Nat.reduceLT, Nat.reduceAdd, Nat.reduceBEq, Nat.reduceSub, Nat.reduceLeDiff, Nat.reduceEqDiff, Nat.reduceMul, Int.reduceToNat, Int.reduceEq, Int.reduceLT, Int.reduceLE, Int.reduceAdd, Int.reduceSub, Int.reduceMul, reduceCtorEq, cond_true, cond_false, forall_eq', forall_eq, forall_const, implies_true, if_true, if_false, exists_eq_left', exists_eq', exists_eq, ne_eq, Try.f90, tb90_52, tb90_124, tb90_126, tb90_125, spFlB_q, spFlB_A, spFlB_pre, spFlB_post, spRings_q, spRings_A, spRings_pre, spRings_post, spCorners_q, spCorners_A, spCorners_pre, spCorners_post, spBnd_q, spBnd_A, spBnd_pre, spBnd_post, spPxB_q, spPxB_A, spPxB_pre, spPxB_post]
  repeat' (first | apply And.intro | (intro _) | omega | assumption | with_reducible rfl)
  all_goals (first | (exact hv1; done) | ((rw [hfl]; omega); done) | (omega; done) | (exact bnd_ok (fl_ne ‹_›) hun; done) | ((rw [flB_0 ‹_›]; rfl); done) | ((rw [flB_1 ‹_›]); done))
theorem sat_spec_fillBox : Sat Try.prog rt0 90 (wkIn spFlB) := sat_in (sat_out sat_spec_fillBox_0)
end Go.Proofs.Ytdkfamajaopgoaa
end
