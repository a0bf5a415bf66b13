/- Contracts of functions of the program vectorraster, each proved for all states that fit its description. No conditions. -/
import Derived.Test.YtkhplopcjkkejaaGreatED
import Derived.Test.YtkhplopcjkkejaaGreatPE
import Derived.Test.YtkhplopcjkkejaaGreatP4KQ
import Derived.Test.YtkhplopcjkkejaaGreatPD
import Derived.Test.YtkhplopcjkkejaaGreatPC
import Derived.Test.YtkhplopcjkkejaaGreatPV
import Derived.Test.YtkhplopcjkkejaaGreatPA
import Derived.Test.YtkhplopcjkkejaaGreatPQ
import Derived.Test.YtkhplopcjkkejaaGreatPO
import Derived.Shelf.Spec.SlicesGrow
import Derived.Test.YtkhplopcjkkejaaGreatRows
set_option linter.unusedSimpArgs false
set_option linter.unusedVariables false
section
namespace Go.Proofs
open Go.Shelf
def YtkhplopcjkkejaaGreat.growP_ren : Go.Shelf.Ren := ⟨fun | 4 => 157 | n => n, fun | 22 => 110 | 25 => 36 | 3 => 3 | 4 => 4 | 9 => 9 | 20 => 20 | 0 => 0 | 2 => 3 | n => n, fun | n => n⟩
theorem YtkhplopcjkkejaaGreat.growP : Go.Proofs.Lays8.n4 Tryz.prog YtkhplopcjkkejaaGreat.growP_ren := {
  mixed := by kernel_rfl
  f4 := ⟨Tryz.f157.name, by decide, Tryz.func157.trans (congrArg some (by kernel_rfl))⟩
  t0 := Tryz.underlying0
  a0 := Tryz.isAgg0
  z0 := Tryz.sizeOf0
  v0 := Tryz.zeroValue0
  t3 := Tryz.underlying3
  a3 := Tryz.isAgg3
  z3 := Tryz.sizeOf3
  v3 := Tryz.zeroValue3
  t4 := Tryz.underlying4
  a4 := Tryz.isAgg4
  z4 := Tryz.sizeOf4
  v4 := Tryz.zeroValue4
  t9 := Tryz.underlying9
  a9 := Tryz.isAgg9
  z9 := Tryz.sizeOf9
  v9 := Tryz.zeroValue9
  t20 := Tryz.underlying20
  a20 := Tryz.isAgg20
  z20 := Tryz.sizeOf20
  v20 := Tryz.zeroValue20
  t22 := Tryz.underlying110
  a22 := Tryz.isAgg110
  z22 := Tryz.sizeOf110
  v22 := Tryz.zeroValue110 }
end Go.Proofs
end
section
set_option maxRecDepth 100000
set_option linter.unusedSimpArgs false
set_option linter.unusedVariables false
namespace Go.Proofs.YtkhplopcjkkejaaGreat
open Go Go.VE
theorem sat_slices_Grow_impl_Point_impl_Point_0 : Sat Tryz.prog rt0 157 (spGrow 2 36 1000000) := sat_grow (ρ := growP_ren) growP ttok (te := ⟨.struct [(3, 0, 1), (3, 1, 1)], 2, 16, [.int .i64 0, .int .i64 0], true⟩) rfl (by decide) (by decide) (by decide)
theorem sat_slices_Grow_impl_Point_impl_Point : Sat Tryz.prog rt0 157 (wkIn (spGrow 2 36 1000000)) := sat_in sat_slices_Grow_impl_Point_impl_Point_0
def spCct_A : (List (List Pt)) → List AV
  | L => [.c (.sl false (L.map lptC))]
def spCct_pre : (List (List Pt)) → Prop
  | L => total L ≤ 1000000 ∧ L.length ≤ 1000000
def spCct_post : (List (List Pt)) → AV → List Box → Prop
  | L, r, bs => r = .c (.own 0 (L.flatten).length false) ∧ bs = [⟨(L.flatten).map ptC, 2, 36, true, false⟩]
def spCct : VE.Spec := famSpec spCct_A d_llpt spCct_pre spCct_post 0 false
theorem spCct_q : spCct.flat = false ∧ spCct.mt = [] ∧ spCct.shut = false ∧ spCct.cost = 0 ∧ (∀ a i, spCct.pre a i = (i = [] ∧ famPre d_llpt spCct_A spCct_pre a)) ∧ ∀ a i r b, spCct.post a i r b = (famPost d_llpt spCct_post a r b) := ⟨rfl, rfl, rfl, rfl, fun _ _ => rfl, fun _ _ _ _ => rfl⟩
def tb115 : Nat → Option VE.Spec := tabOf [(157, (spGrow 2 36 1000000))]
theorem tb115_157 : tb115 157 = some ((spGrow 2 36 1000000)) := rfl
theorem tb115_ok : TabOK Tryz.prog rt0 tb115 := (tabOf_cons (by kernel_rfl) sat_slices_Grow_impl_Point_impl_Point_0 tabOf_nil)
set_option maxHeartbeats 4000000 in
theorem sat_slices_Concat_impl_Point_impl_Point_0 : Sat Tryz.prog rt0 115 (wkOut spCct) := by
  refine fn_sat hm ttok (tab := tb115) tb115_ok Tryz.func115 (c := Tryz.f115.body.getD .skip) (by kernel_rfl) (ts := [.tmp 2]) (by kernel_rfl) Tryz.ntmps115 (sq := fun _ => true) (by kernel_rfl) ?_
  intro args ins pk hpre0 hpk
  obtain ⟨rfl, hpre0⟩ := hpre0
  obtain ⟨L, rfl, hpre, hdec⟩ := famPre_ex hpre0
  clear hpre0 hdec
  try simp only [spCct_pre] at hpre
  replace hpk : pk + 0 ≤ pickLimit := hpk
  refine ⟨Nat.le_of_ble_eq_true rfl, ?_⟩
  simp (config := { maxSteps := 1000000 }) only [go_sem, ↓ifP_true, ↓ifP_false, ↓ifP_not, Nat.reduceLT, Nat.reduceAdd, Nat.reduceBEq, Nat.reduceSub, Nat.reduceLeDiff, Nat.reduceEqDiff, Nat.reduceMul, Int.reduceToNat, Int.reduceEq, Int.reduceLT, Int.reduceLE, Int.reduceAdd, Int.reduceSub, Int.reduceMul, reduceCtorEq, cond_true, cond_false, forall_eq', forall_eq, forall_const, implies_true, if_true, if_false, exists_eq_left', exists_eq', exists_eq, ne_eq, Tryz.f115, tb115_157, spCct_q, spCct_A, spCct_pre, spCct_post, spGrow_q]
  repeat' (first | apply And.intro | (intro _) | omega | assumption | with_reducible rfl)
  any_goals
    refine loopS (α := Int × Int) false [1, 3, 4, 5, 7, 11, 12, 13, 14, 15, 16, 17, 18, 19, 20, 21, 22, 28] (fun σ => []) (fun σ x => [(3, I x.1), (11, I x.2)]) (fun σ x => []) (fun (n, i) => 0) (fun σ => (gI (σ.get 3), gI (σ.get 11))) (fun σ τ => []) (fun (n, i) => (0 ≤ i ∧ i ≤ L.length) ∧ n = total (L.take i.toNat)) (fun (n, i) => (L.length - i).toNat) ⟨by (simp (config := { maxSteps := 1000000 }) only [go_sem, ↓ifP_true, ↓ifP_false, ↓ifP_not, Nat.reduceLT, Nat.reduceAdd, Nat.reduceBEq, Nat.reduceSub, Nat.reduceLeDiff, Nat.reduceEqDiff, Nat.reduceMul, Int.reduceToNat, Int.reduceEq, Int.reduceLT, Int.reduceLE, Int.reduceAdd, Int.reduceSub, Int.reduceMul, reduceCtorEq, cond_true, cond_false, forall_eq', forall_eq, forall_const, implies_true, if_true, if_false, exists_eq_left', exists_eq', exists_eq, ne_eq, Tryz.f115, tb115_157, spCct_q, spCct_A, spCct_pre, spCct_post, spGrow_q]; (repeat' (first | apply And.intro | (intro _) | omega | assumption | with_reducible rfl)); all_goals (first | rfl)), ?_⟩
    rintro ⟨n, i⟩ hinv
    try dsimp only at hinv
    rcases elemAt L i (by omega) with ⟨hlt, r, hk⟩ | hlt
    all_goals (first | ((have hlt2 := of_eq_true hlt); (have hT := total_mem hk); all_goals simp (config := { maxSteps := 1000000 }) only [go_sem, ↓ifP_true, ↓ifP_false, ↓ifP_not, Nat.reduceLT, Nat.reduceAdd, Nat.reduceBEq, Nat.reduceSub, Nat.reduceLeDiff, Nat.reduceEqDiff, Nat.reduceMul, Int.reduceToNat, Int.reduceEq, Int.reduceLT, Int.reduceLE, Int.reduceAdd, Int.reduceSub, Int.reduceMul, reduceCtorEq, cond_true, cond_false, forall_eq', forall_eq, forall_const, implies_true, if_true, if_false, exists_eq_left', exists_eq', exists_eq, ne_eq, Tryz.f115, tb115_157, spCct_q, spCct_A, spCct_pre, spCct_post, spGrow_q, hlt, hk]) | (have hlt2 := of_eq_false hlt; simp (config := { maxSteps := 1000000 }) only [go_sem, ↓ifP_true, ↓ifP_false, ↓ifP_not, Nat.reduceLT, Nat.reduceAdd, Nat.reduceBEq, Nat.reduceSub, Nat.reduceLeDiff, Nat.reduceEqDiff, Nat.reduceMul, Int.reduceToNat, Int.reduceEq, Int.reduceLT, Int.reduceLE, Int.reduceAdd, Int.reduceSub, Int.reduceMul, reduceCtorEq, cond_true, cond_false, forall_eq', forall_eq, forall_const, implies_true, if_true, if_false, exists_eq_left', exists_eq', exists_eq, ne_eq, Tryz.f115, tb115_157, spCct_q, spCct_A, spCct_pre, spCct_post, spGrow_q, hlt]))
    all_goals
      repeat' (first | apply And.intro | (intro _) | omega | assumption | with_reducible rfl)
  
  any_goals
    refine loopS (α := (List Pt) × Int) false [0, 1, 3, 4, 5, 6, 7, 8, 9, 10, 11, 12, 13, 14, 15, 16, 17, 18, 19, 20, 21, 22, 23, 24, 27, 28, 29, 30, 31, 32, 33, 34] (fun σ => [gId (σ.get 6)]) (fun σ x => [(6, .c (.own (gId (σ.get 6)) (x.1).length false)), (27, I x.2)]) (fun σ x => [(gId (σ.get 6), some ⟨(x.1).map ptC, 2, 36, true, false⟩)]) (fun (o, j) => 0) (fun σ => (gL ptCd σ (σ.get 6), gI (σ.get 27))) (fun σ τ => [(gId (σ.get 6), gId (τ.get 6))]) (fun (o, j) => (0 ≤ j ∧ j ≤ L.length) ∧ o = (L.take j.toNat).flatten) (fun (o, j) => (L.length - j).toNat) ⟨by (simp (config := { maxSteps := 1000000 }) only [go_sem, ↓ifP_true, ↓ifP_false, ↓ifP_not, Nat.reduceLT, Nat.reduceAdd, Nat.reduceBEq, Nat.reduceSub, Nat.reduceLeDiff, Nat.reduceEqDiff, Nat.reduceMul, Int.reduceToNat, Int.reduceEq, Int.reduceLT, Int.reduceLE, Int.reduceAdd, Int.reduceSub, Int.reduceMul, reduceCtorEq, cond_true, cond_false, forall_eq', forall_eq, forall_const, implies_true, if_true, if_false, exists_eq_left', exists_eq', exists_eq, ne_eq, Tryz.f115, tb115_157, spCct_q, spCct_A, spCct_pre, spCct_post, spGrow_q]; (repeat' (first | apply And.intro | (intro _) | omega | assumption | with_reducible rfl)); all_goals (first | rfl)), ?_⟩
    rintro ⟨o, j⟩ hinv
    try dsimp only at hinv
    rcases elemAt L j (by omega) with ⟨hlt, r, hk⟩ | hlt
    all_goals (first | ((have hlt2 := of_eq_true hlt); (have hT := total_mem hk); all_goals simp (config := { maxSteps := 1000000 }) only [go_sem, ↓ifP_true, ↓ifP_false, ↓ifP_not, Nat.reduceLT, Nat.reduceAdd, Nat.reduceBEq, Nat.reduceSub, Nat.reduceLeDiff, Nat.reduceEqDiff, Nat.reduceMul, Int.reduceToNat, Int.reduceEq, Int.reduceLT, Int.reduceLE, Int.reduceAdd, Int.reduceSub, Int.reduceMul, reduceCtorEq, cond_true, cond_false, forall_eq', forall_eq, forall_const, implies_true, if_true, if_false, exists_eq_left', exists_eq', exists_eq, ne_eq, Tryz.f115, tb115_157, spCct_q, spCct_A, spCct_pre, spCct_post, spGrow_q, hlt, hk]) | (have hlt2 := of_eq_false hlt; simp (config := { maxSteps := 1000000 }) only [go_sem, ↓ifP_true, ↓ifP_false, ↓ifP_not, Nat.reduceLT, Nat.reduceAdd, Nat.reduceBEq, Nat.reduceSub, Nat.reduceLeDiff, Nat.reduceEqDiff, Nat.reduceMul, Int.reduceToNat, Int.reduceEq, Int.reduceLT, Int.reduceLE, Int.reduceAdd, Int.reduceSub, Int.reduceMul, reduceCtorEq, cond_true, cond_false, forall_eq', forall_eq, forall_const, implies_true, if_true, if_false, exists_eq_left', exists_eq', exists_eq, ne_eq, Tryz.f115, tb115_157, spCct_q, spCct_A, spCct_pre, spCct_post, spGrow_q, hlt]))
    all_goals
    repeat' (first | apply And.intro | (intro _) | omega | assumption | with_reducible rfl)
  all_goals (first | ((rw [takeN hk hinv.1.1, total_snoc]; omega); done) | ((have h9 := total_take L i.toNat; exact ⟨n, by omega, by omega, rfl⟩); done) | ((obtain ⟨⟨h0, h1⟩, rfl⟩ := hinv; rw [flat_len]; omega); done) | ((obtain ⟨⟨h0, h1⟩, rfl⟩ := hinv; rw [takeN hk h0, flat_snoc]); done) | ((obtain ⟨⟨h0, h1⟩, rfl⟩ := hinv; rw [takeA (by omega)]); done) | (skip; done))
theorem sat_slices_Concat_impl_Point_impl_Point : Sat Tryz.prog rt0 115 (wkIn spCct) := sat_in (sat_out sat_slices_Concat_impl_Point_impl_Point_0)
end Go.Proofs.YtkhplopcjkkejaaGreat
end
section
set_option maxRecDepth 100000
set_option linter.unusedSimpArgs false
set_option linter.unusedVariables false
namespace Go.Proofs.YtkhplopcjkkejaaGreat
open Go Go.VE
def pxB (b : Bx) : Bx := ⟨b.l / 16, b.t / 16, b.r / 16 + 1, b.b / 16 + 1⟩
def emB (b : Bx) : Bool := decide (b.r ≤ b.l ∨ b.b ≤ b.t)
def jnB (a b : Bx) : Bx := if emB a = true then (if emB b = true then ⟨0, 0, 0, 0⟩ else b) else if emB b = true then a else ⟨min a.l b.l, min a.t b.t, max a.r b.r, max a.b b.b⟩
structure prpB (b : Bx) : Prop where
  d : b = ⟨0, 0, 0, 0⟩ ∨ b.l < b.r ∧ b.t < b.b
  n : (-1000000 ≤ b.l ∧ b.l ≤ 1000000) ∧ (-1000000 ≤ b.t ∧ b.t ≤ 1000000) ∧ (-1000000 ≤ b.r ∧ b.r ≤ 1000000) ∧ -1000000 ≤ b.b ∧ b.b ≤ 1000000
def ovB (c b : Bx) : Bool := decide (max b.l c.l < min b.r c.r ∧ max b.t c.t < min b.b c.b)
def tsN (b : Bx) (w h : Int) (k : Nat) : List Int := ((List.range k).filter fun j : Nat => ovB (tbox w h (j : Int)) b).map fun j : Nat => (j : Int)
theorem tsN_yes {b : Bx} {w h i : Int} (h0 : 0 ≤ i) (ho : ovB (tbox w h i) b = true) : tsN b w h i.toNat ++ [i] = tsN b w h (i + 1).toNat := by
  have e : (i.toNat : Int) = i := Int.toNat_of_nonneg h0
  rw [show (i + 1).toNat = i.toNat + 1 by omega, tsN, tsN, List.range_succ, List.filter_append, List.map_append]
  simp only [List.filter_cons, e, ho, if_true, List.filter_nil, List.map_cons, List.map_nil]
theorem tsN_no {b : Bx} {w h i : Int} (h0 : 0 ≤ i) (ho : ovB (tbox w h i) b = false) : tsN b w h i.toNat = tsN b w h (i + 1).toNat := by
  have e : (i.toNat : Int) = i := Int.toNat_of_nonneg h0
  rw [show (i + 1).toNat = i.toNat + 1 by omega, tsN, tsN, List.range_succ, List.filter_append, List.map_append]
  simp [e, ho]
theorem tsN_len (b : Bx) (w h : Int) (k : Nat) : (tsN b w h k).length ≤ k := by
  rw [tsN, List.length_map]
  exact Nat.le_trans (List.length_filter_le _ _) (by simp)
theorem tsN_mem {b : Bx} {w h t : Int} {k : Nat} (h0 : 0 ≤ t) (hk : t < k) (ho : ovB (tbox w h t) b = true) : t ∈ tsN b w h k := by
  refine List.mem_map.2 ⟨t.toNat, List.mem_filter.2 ⟨List.mem_range.2 (by omega), ?_⟩, Int.toNat_of_nonneg h0⟩
  rw [Int.toNat_of_nonneg h0]; exact ho
theorem bnd1_in (b : Bx) (p : Pt) : ((bnd1 b p).l ≤ b.l ∧ b.r ≤ (bnd1 b p).r ∧ (bnd1 b p).t ≤ b.t ∧ b.b ≤ (bnd1 b p).b) ∧ ((bnd1 b p).l ≤ p.x ∧ p.x ≤ (bnd1 b p).r) ∧ (bnd1 b p).t ≤ p.y ∧ p.y ≤ (bnd1 b p).b := by
  simp only [bnd1]; omega
theorem bndF_in : ∀ (l : List Pt) (b : Bx), ((l.foldl bnd1 b).l ≤ b.l ∧ b.r ≤ (l.foldl bnd1 b).r ∧ (l.foldl bnd1 b).t ≤ b.t ∧ b.b ≤ (l.foldl bnd1 b).b) ∧ ∀ p ∈ l, ((l.foldl bnd1 b).l ≤ p.x ∧ p.x ≤ (l.foldl bnd1 b).r) ∧ (l.foldl bnd1 b).t ≤ p.y ∧ p.y ≤ (l.foldl bnd1 b).b
  | [], b => ⟨⟨Int.le_refl _, Int.le_refl _, Int.le_refl _, Int.le_refl _⟩, fun p hp => by cases hp⟩
  | q :: l, b => by
    obtain ⟨h1, h2⟩ := bndF_in l (bnd1 b q)
    obtain ⟨g1, g2⟩ := bnd1_in b q
    rw [List.foldl_cons]
    generalize hB : l.foldl bnd1 (bnd1 b q) = B at *
    generalize bnd1 b q = c at *
    refine ⟨by omega, fun p hp => ?_⟩
    rcases List.mem_cons.1 hp with rfl | hp
    · omega
    · exact h2 p hp
theorem bndF_bd : ∀ (l : List Pt) (b : Bx), (∀ p ∈ l, (-1000 ≤ p.x ∧ p.x ≤ 1000) ∧ -1000 ≤ p.y ∧ p.y ≤ 1000) → ((-1000 ≤ b.l ∧ b.r ≤ 1000) ∧ -1000 ≤ b.t ∧ b.b ≤ 1000) → (-1000 ≤ (l.foldl bnd1 b).l ∧ (l.foldl bnd1 b).r ≤ 1000) ∧ -1000 ≤ (l.foldl bnd1 b).t ∧ (l.foldl bnd1 b).b ≤ 1000
  | [], b, _, h => h
  | q :: l, b, hl, h => by
    have hq := hl q (by simp)
    refine bndF_bd l (bnd1 b q) (fun p hp => hl p (by simp [hp])) ?_
    simp only [bnd1]; omega
theorem bnd_in {l : List Pt} : ∀ p ∈ l, ((bnd l).l ≤ p.x ∧ p.x ≤ (bnd l).r) ∧ (bnd l).t ≤ p.y ∧ p.y ≤ (bnd l).b := by
  intro p hp
  cases l with
  | nil => cases hp
  | cons a l =>
    rw [bnd_of (k := a) rfl]
    exact (bndF_in (a :: l) _).2 p hp
theorem bnd_ok {l : List Pt} (hn : l ≠ []) (h : ∀ p ∈ l, (-1000 ≤ p.x ∧ p.x ≤ 1000) ∧ -1000 ≤ p.y ∧ p.y ≤ 1000) : vBx (bnd l) = true := by
  cases l with
  | nil => exact absurd rfl hn
  | cons a l =>
    have h0 := h a (by simp)
    have h1 := bnd_in a (show a ∈ a :: l by simp)
    have h2 := bndF_bd (a :: l) ⟨a.x, a.y, a.x, a.y⟩ h (by dsimp only; omega)
    rw [← bnd_of (k := a) rfl] at h2
    simp only [vBx, decide_eq_true_eq]; omega
theorem flat_units {L : List (List Pt)} (h : vRings L = true) : ∀ p ∈ L.flatten, (-1000 ≤ p.x ∧ p.x ≤ 1000) ∧ -1000 ≤ p.y ∧ p.y ≤ 1000 := by
  intro p hp
  obtain ⟨r, hr, hm⟩ := List.mem_flatten.1 hp
  simp only [vRings, Bool.and_eq_true, List.all_eq_true] at h
  have h1 := h.1.1 r hr
  simp only [vRing, vPts, Bool.and_eq_true, List.all_eq_true] at h1
  have h2 := h1.2.2 p hm
  simpa [vPt, isU] using h2
theorem prp_em {a : Bx} (h : prpB a) : emB a = decide (a.l = a.r ∨ a.t = a.b) := by
  rcases h.1 with rfl | ⟨h1, h2⟩
  · rfl
  · simp only [emB, decide_eq_decide]; omega
theorem tidy_em (b : Bx) : (if b.l ≥ b.r ∨ b.t ≥ b.b then (⟨0, 0, 0, 0⟩ : Bx) else b) = if emB b = true then ⟨0, 0, 0, 0⟩ else b := by
  by_cases h : b.r ≤ b.l ∨ b.b ≤ b.t
  · rw [if_pos (by omega), if_pos (by rw [emB, decide_eq_true h])]
  · rw [if_neg (by omega), if_neg (by rw [emB, decide_eq_false h]; decide)]
theorem jn_1 {a b : Bx} (ha : prpB a) (hb : prpB b) (h : a.l = a.r ∨ a.t = a.b) : (if b.l ≥ b.r ∨ b.t ≥ b.b then (⟨0, 0, 0, 0⟩ : Bx) else b) = jnB a b := by
  have e : emB a = true := by rw [prp_em ha, decide_eq_true h]
  rw [tidy_em, jnB, e, if_pos rfl]
theorem jn_2 {a b : Bx} (ha : prpB a) (hb : prpB b) (h : ¬ (a.l = a.r ∨ a.t = a.b)) (h2 : b.l = b.r ∨ b.t = b.b) : (if a.l ≥ a.r ∨ a.t ≥ a.b then (⟨0, 0, 0, 0⟩ : Bx) else a) = jnB a b := by
  have e : ¬ emB a = true := by rw [prp_em ha, decide_eq_false h]; decide
  rw [tidy_em, jnB, if_neg e, if_neg e, if_pos (by rw [prp_em hb, decide_eq_true h2])]
theorem jn_3 {a b : Bx} (ha : prpB a) (hb : prpB b) (h : ¬ (a.l = a.r ∨ a.t = a.b)) (h2 : ¬ (b.l = b.r ∨ b.t = b.b)) : [C.v (.int .i64 (min a.l b.l)), C.v (.int .i64 (min a.t b.t)), C.v (.int .i64 (max a.r b.r)), C.v (.int .i64 (max a.b b.b))] = bxC (jnB a b) := by
  rw [jnB, if_neg (by rw [prp_em ha, decide_eq_false h]; decide), if_neg (by rw [prp_em hb, decide_eq_false h2]; decide)]; rfl
def flB (p : List Verb) : Bx := if (ringsOf p).flatten = [] then ⟨0, 0, 0, 0⟩ else pxB (bnd (ringsOf p).flatten)
theorem flB_prp {p : List Verb} (h : vRings (ringsOf p) = true) : prpB (flB p) := by
  unfold flB
  split
  · exact ⟨.inl rfl, by simp⟩
  · have h1 := bnd_ok ‹_› (flat_units h)
    simp only [vBx, decide_eq_true_eq] at h1
    refine ⟨.inr ?_, ?_⟩ <;> simp only [pxB] <;> omega
def spEmB_A : Bx → List AV
  | b => [.agg (bxC b)]
def spEmB_pre : Bx → Prop
  | b => True
def spEmB_post : Bx → AV → List Box → Prop
  | b, r, bs => r = B (emB b) ∧ bs = []
def spEmB : VE.Spec := famSpec spEmB_A d_bx spEmB_pre spEmB_post 0 true
theorem spEmB_q : spEmB.flat = true ∧ spEmB.mt = [] ∧ spEmB.shut = false ∧ spEmB.cost = 0 ∧ (∀ a i, spEmB.pre a i = (i = [] ∧ famPre d_bx spEmB_A spEmB_pre a)) ∧ ∀ a i r b, spEmB.post a i r b = (famPost d_bx spEmB_post a r b) := ⟨rfl, rfl, rfl, rfl, fun _ _ => rfl, fun _ _ _ _ => rfl⟩
def tb113 : Nat → Option VE.Spec := tabOf []
theorem tb113_ok : TabOK Tryz.prog rt0 tb113 := tabOf_nil
set_option maxHeartbeats 4000000 in
theorem sat_impl_Box_empty_0 : Sat Tryz.prog rt0 113 (wkOut spEmB) := by
  refine fn_sat hm ttok (tab := tb113) tb113_ok Tryz.func113 (c := Tryz.f113.body.getD .skip) (by kernel_rfl) (ts := [.tmp 2]) (by kernel_rfl) Tryz.ntmps113 (sq := fun _ => true) (by kernel_rfl) ?_
  intro args ins pk hpre0 hpk
  obtain ⟨rfl, hpre0⟩ := hpre0
  obtain ⟨b, rfl, hpre, hdec⟩ := famPre_ex hpre0
  clear hpre0 hdec
  try simp only [spEmB_pre] at hpre
  replace hpk : pk + 0 ≤ pickLimit := hpk
  refine ⟨Nat.le_of_ble_eq_true rfl, ?_⟩
  simp (config := { maxSteps := 1000000 }) only [go_sem, ↓ifP_true, ↓ifP_false, ↓ifP_not, Nat.reduceLT, Nat.reduceAdd, Nat.reduceBEq, Nat.reduceSub, Nat.reduceLeDiff, Nat.reduceEqDiff, Nat.reduceMul, Int.reduceToNat, Int.reduceEq, Int.reduceLT, Int.reduceLE, Int.reduceAdd, Int.reduceSub, Int.reduceMul, reduceCtorEq, cond_true, cond_false, forall_eq', forall_eq, forall_const, implies_true, if_true, if_false, exists_eq_left', exists_eq', exists_eq, ne_eq, Tryz.f113, spEmB_q, spEmB_A, spEmB_pre, spEmB_post]
  repeat' (first | apply And.intro | (intro _) | omega | assumption | with_reducible rfl)
  all_goals (first | ((simp only [decide_eq_decide, true_eq_decide_iff, false_eq_decide_iff, Bool.not_eq_eq_eq_not, Bool.not_true, Bool.not_false]; omega); done) | ((simp [emB]; omega); done) | (grind [emB]; done))
theorem sat_impl_Box_empty : Sat Tryz.prog rt0 113 (wkIn spEmB) := sat_in (sat_out sat_impl_Box_empty_0)
def spPxB_A : Bx → List AV
  | b => [.agg (bxC b)]
def spPxB_pre : Bx → Prop
  | b => vBx b = true
def spPxB_post : Bx → AV → List Box → Prop
  | b, r, bs => r = .agg (bxC (pxB b)) ∧ bs = []
def spPxB : VE.Spec := famSpec spPxB_A d_bx spPxB_pre spPxB_post 0 true
theorem spPxB_q : spPxB.flat = true ∧ spPxB.mt = [] ∧ spPxB.shut = false ∧ spPxB.cost = 0 ∧ (∀ a i, spPxB.pre a i = (i = [] ∧ famPre d_bx spPxB_A spPxB_pre a)) ∧ ∀ a i r b, spPxB.post a i r b = (famPost d_bx spPxB_post a r b) := ⟨rfl, rfl, rfl, rfl, fun _ _ => rfl, fun _ _ _ _ => rfl⟩
def tb116 : Nat → Option VE.Spec := tabOf [(84, wkIn spVBx), (105, wkIn spFloor)]
theorem tb116_84 : tb116 84 = some (wkIn spVBx) := rfl
theorem tb116_105 : tb116 105 = some (wkIn spFloor) := rfl
theorem tb116_ok : TabOK Tryz.prog rt0 tb116 := (tabOf_cons (by kernel_rfl) sat_impl_Box_valid (tabOf_cons (by kernel_rfl) sat_impl_floor tabOf_nil))
set_option maxHeartbeats 4000000 in
theorem sat_impl_PixelBox_0 : Sat Tryz.prog rt0 116 (wkOut spPxB) := by
  refine fn_sat hm ttok (tab := tb116) tb116_ok Tryz.func116 (c := Tryz.f116.body.getD .skip) (by kernel_rfl) (ts := [.cell 2 69]) (by kernel_rfl) Tryz.ntmps116 (sq := fun id => !(id == 3)) (by kernel_rfl) ?_
  intro args ins pk hpre0 hpk
  obtain ⟨rfl, hpre0⟩ := hpre0
  obtain ⟨b, rfl, hpre, hdec⟩ := famPre_ex hpre0
  clear hpre0 hdec
  try simp only [spPxB_pre] at hpre
  replace hpk : pk + 0 ≤ pickLimit := hpk
  refine ⟨Nat.le_of_ble_eq_true rfl, ?_⟩
  have hb := hpre
  simp only [vBx, decide_eq_true_eq] at hb
  simp (config := { maxSteps := 1000000 }) only [go_sem, ↓ifP_true, ↓ifP_false, ↓ifP_not, Nat.reduceLT, Nat.reduceAdd, Nat.reduceBEq, Nat.reduceSub, Nat.reduceLeDiff, Nat.reduceEqDiff, Nat.reduceMul, Int.reduceToNat, Int.reduceEq, Int.reduceLT, Int.reduceLE, Int.reduceAdd, Int.reduceSub, Int.reduceMul, reduceCtorEq, cond_true, cond_false, forall_eq', forall_eq, forall_const, implies_true, if_true, if_false, exists_eq_left', exists_eq', exists_eq, ne_eq, Tryz.f116, tb116_84, tb116_105, spPxB_q, spPxB_A, spPxB_pre, spPxB_post, spVBx_q, spVBx_A, spVBx_pre, spVBx_post, spFloor_q, spFloor_A, spFloor_pre, spFloor_post]
  repeat' (first | apply And.intro | (intro _) | omega | assumption | with_reducible rfl)
  all_goals try (refine drawI (VE.Plan.first 0 (VE.Plan.first 1 (VE.Plan.first 3 (VE.Plan.first 4 (VE.Plan.first 6 (VE.Plan.first 7 (VE.Plan.first 10 (VE.Plan.first 11 (VE.Plan.alt 2 (VE.Plan.alt 5 (VE.Plan.alt 8 (VE.Plan.first 9 (VE.Plan.alt 12 (VE.Plan.first 13 (VE.Plan.first 14 (VE.Plan.alt 15 VE.Plan.nil VE.Plan.nil))) VE.Plan.nil)) VE.Plan.nil) VE.Plan.nil) VE.Plan.nil))))))))) (by decide +kernel) ?_; simp (config := { maxSteps := 1000000 }) only [go_sem, ↓ifP_true, ↓ifP_false, ↓ifP_not, Nat.reduceLT, Nat.reduceAdd, Nat.reduceBEq, Nat.reduceSub, Nat.reduceLeDiff, Nat.reduceEqDiff, Nat.reduceMul, Int.reduceToNat, Int.reduceEq, Int.reduceLT, Int.reduceLE, Int.reduceAdd, Int.reduceSub, Int.reduceMul, reduceCtorEq, cond_true, cond_false, forall_eq', forall_eq, forall_const, implies_true, if_true, if_false, exists_eq_left', exists_eq', exists_eq, ne_eq, planW, stepW, Tryz.f116, tb116_84, tb116_105, spPxB_q, spPxB_A, spPxB_pre, spPxB_post, spVBx_q, spVBx_A, spVBx_pre, spVBx_post, spFloor_q, spFloor_A, spFloor_pre, spFloor_post]; repeat' (first | apply And.intro | (intro _) | omega | assumption | with_reducible rfl))
  all_goals (first | (omega; done) | (rfl; done) | ((exfalso; simp_all; done); done) | (simp [pxB, *]; done))
theorem sat_impl_PixelBox : Sat Tryz.prog rt0 116 (wkIn spPxB) := sat_in (sat_out sat_impl_PixelBox_0)
def tb164 : Nat → Option VE.Spec := tabOf [(174, wkIn spFloor)]
theorem tb164_174 : tb164 174 = some (wkIn spFloor) := rfl
theorem tb164_ok : TabOK Tryz.prog rt0 tb164 := (tabOf_cons (by kernel_rfl) sat_spec_floorDiv tabOf_nil)
set_option maxHeartbeats 4000000 in
theorem sat_spec_pixelBox_0 : Sat Tryz.prog rt0 164 (wkOut spPxB) := by
  refine fn_sat hm ttok (tab := tb164) tb164_ok Tryz.func164 (c := Tryz.f164.body.getD .skip) (by kernel_rfl) (ts := [.cell 2 69]) (by kernel_rfl) Tryz.ntmps164 (sq := fun id => !(id == 1)) (by kernel_rfl) ?_
  intro args ins pk hpre0 hpk
  obtain ⟨rfl, hpre0⟩ := hpre0
  obtain ⟨b, rfl, hpre, hdec⟩ := famPre_ex hpre0
  clear hpre0 hdec
  try simp only [spPxB_pre] at hpre
  replace hpk : pk + 0 ≤ pickLimit := hpk
  refine ⟨Nat.le_of_ble_eq_true rfl, ?_⟩
  have hb := hpre
  simp only [vBx, decide_eq_true_eq] at hb
  simp (config := { maxSteps := 1000000 }) only [go_sem, ↓ifP_true, ↓ifP_false, ↓ifP_not, Nat.reduceLT, Nat.reduceAdd, Nat.reduceBEq, Nat.reduceSub, Nat.reduceLeDiff, Nat.reduceEqDiff, Nat.reduceMul, Int.reduceToNat, Int.reduceEq, Int.reduceLT, Int.reduceLE, Int.reduceAdd, Int.reduceSub, Int.reduceMul, reduceCtorEq, cond_true, cond_false, forall_eq', forall_eq, forall_const, implies_true, if_true, if_false, exists_eq_left', exists_eq', exists_eq, ne_eq, Tryz.f164, tb164_174, spPxB_q, spPxB_A, spPxB_pre, spPxB_post, spFloor_q, spFloor_A, spFloor_pre, spFloor_post]
  repeat' (first | apply And.intro | (intro _) | omega | assumption | with_reducible rfl)
  all_goals try (refine drawI (VE.Plan.first 0 (VE.Plan.first 1 (VE.Plan.first 3 (VE.Plan.first 4 (VE.Plan.first 6 (VE.Plan.first 7 (VE.Plan.first 10 (VE.Plan.first 11 (VE.Plan.alt 2 (VE.Plan.alt 5 (VE.Plan.alt 8 (VE.Plan.first 9 (VE.Plan.alt 12 (VE.Plan.first 13 (VE.Plan.first 14 (VE.Plan.alt 15 VE.Plan.nil VE.Plan.nil))) VE.Plan.nil)) VE.Plan.nil) VE.Plan.nil) VE.Plan.nil))))))))) (by decide +kernel) ?_; simp (config := { maxSteps := 1000000 }) only [go_sem, ↓ifP_true, ↓ifP_false, ↓ifP_not, Nat.reduceLT, Nat.reduceAdd, Nat.reduceBEq, Nat.reduceSub, Nat.reduceLeDiff, Nat.reduceEqDiff, Nat.reduceMul, Int.reduceToNat, Int.reduceEq, Int.reduceLT, Int.reduceLE, Int.reduceAdd, Int.reduceSub, Int.reduceMul, reduceCtorEq, cond_true, cond_false, forall_eq', forall_eq, forall_const, implies_true, if_true, if_false, exists_eq_left', exists_eq', exists_eq, ne_eq, planW, stepW, Tryz.f164, tb164_174, spPxB_q, spPxB_A, spPxB_pre, spPxB_post, spFloor_q, spFloor_A, spFloor_pre, spFloor_post]; repeat' (first | apply And.intro | (intro _) | omega | assumption | with_reducible rfl))
  all_goals (first | (omega; done) | (rfl; done) | (simp [pxB, *]; done))
theorem sat_spec_pixelBox : Sat Tryz.prog rt0 164 (wkIn spPxB) := sat_in (sat_out sat_spec_pixelBox_0)
def spJnB_A : Bx × Bx → List AV
  | (a, b) => [.agg (bxC a), .agg (bxC b)]
def spJnB_pre : Bx × Bx → Prop
  | (a, b) => prpB a ∧ prpB b
def spJnB_post : Bx × Bx → AV → List Box → Prop
  | (a, b), r, bs => r = .agg (bxC (jnB a b)) ∧ bs = []
def spJnB : VE.Spec := famSpec spJnB_A d_bx_bx spJnB_pre spJnB_post 0 true
theorem spJnB_q : spJnB.flat = true ∧ spJnB.mt = [] ∧ spJnB.shut = false ∧ spJnB.cost = 0 ∧ (∀ a i, spJnB.pre a i = (i = [] ∧ famPre d_bx_bx spJnB_A spJnB_pre a)) ∧ ∀ a i r b, spJnB.post a i r b = (famPost d_bx_bx spJnB_post a r b) := ⟨rfl, rfl, rfl, rfl, fun _ _ => rfl, fun _ _ _ _ => rfl⟩
def tb73 : Nat → Option VE.Spec := tabOf [(113, wkIn spEmB)]
theorem tb73_113 : tb73 113 = some (wkIn spEmB) := rfl
theorem tb73_ok : TabOK Tryz.prog rt0 tb73 := (tabOf_cons (by kernel_rfl) sat_impl_Box_empty tabOf_nil)
set_option maxHeartbeats 4000000 in
theorem sat_impl_Box_join_0 : Sat Tryz.prog rt0 73 (wkOut spJnB) := by
  refine fn_sat hm ttok (tab := tb73) tb73_ok Tryz.func73 (c := Tryz.f73.body.getD .skip) (by kernel_rfl) (ts := [.cell 4 69]) (by kernel_rfl) Tryz.ntmps73 (sq := fun _ => true) (by kernel_rfl) ?_
  intro args ins pk hpre0 hpk
  obtain ⟨rfl, hpre0⟩ := hpre0
  obtain ⟨⟨a, b⟩, rfl, hpre, hdec⟩ := famPre_ex hpre0
  clear hpre0 hdec
  try simp only [spJnB_pre] at hpre
  replace hpk : pk + 0 ≤ pickLimit := hpk
  refine ⟨Nat.le_of_ble_eq_true rfl, ?_⟩
  simp (config := { maxSteps := 1000000 }) only [go_sem, ↓ifP_true, ↓ifP_false, ↓ifP_not, Nat.reduceLT, Nat.reduceAdd, Nat.reduceBEq, Nat.reduceSub, Nat.reduceLeDiff, Nat.reduceEqDiff, Nat.reduceMul, Int.reduceToNat, Int.reduceEq, Int.reduceLT, Int.reduceLE, Int.reduceAdd, Int.reduceSub, Int.reduceMul, reduceCtorEq, cond_true, cond_false, forall_eq', forall_eq, forall_const, implies_true, if_true, if_false, exists_eq_left', exists_eq', exists_eq, ne_eq, Tryz.f73, tb73_113, spJnB_q, spJnB_A, spJnB_pre, spJnB_post, spEmB_q, spEmB_A, spEmB_pre, spEmB_post]
  repeat' (first | apply And.intro | (intro _) | omega | assumption | with_reducible rfl)
  all_goals (first | ((simp [jnB, *]; done); done) | ((simp [jnB, *]; rfl); done) | (simp_all [jnB]; done))
theorem sat_impl_Box_join : Sat Tryz.prog rt0 73 (wkIn spJnB) := sat_in (sat_out sat_impl_Box_join_0)
def tb122 : Nat → Option VE.Spec := tabOf [(161, wkIn spEmp), (162, wkIn spTidy)]
theorem tb122_161 : tb122 161 = some (wkIn spEmp) := rfl
theorem tb122_162 : tb122 162 = some (wkIn spTidy) := rfl
theorem tb122_ok : TabOK Tryz.prog rt0 tb122 := (tabOf_cons (by kernel_rfl) sat_spec_isEmpty (tabOf_cons (by kernel_rfl) sat_spec_tidy tabOf_nil))
set_option maxHeartbeats 4000000 in
theorem sat_spec_join_0 : Sat Tryz.prog rt0 122 (wkOut spJnB) := by
  refine fn_sat hm ttok (tab := tb122) tb122_ok Tryz.func122 (c := Tryz.f122.body.getD .skip) (by kernel_rfl) (ts := [.cell 4 69]) (by kernel_rfl) Tryz.ntmps122 (sq := fun _ => true) (by kernel_rfl) ?_
  intro args ins pk hpre0 hpk
  obtain ⟨rfl, hpre0⟩ := hpre0
  obtain ⟨⟨a, b⟩, rfl, hpre, hdec⟩ := famPre_ex hpre0
  clear hpre0 hdec
  try simp only [spJnB_pre] at hpre
  replace hpk : pk + 0 ≤ pickLimit := hpk
  refine ⟨Nat.le_of_ble_eq_true rfl, ?_⟩
  simp (config := { maxSteps := 1000000 }) only [go_sem, ↓ifP_true, ↓ifP_false, ↓ifP_not, Nat.reduceLT, Nat.reduceAdd, Nat.reduceBEq, Nat.reduceSub, Nat.reduceLeDiff, Nat.reduceEqDiff, Nat.reduceMul, Int.reduceToNat, Int.reduceEq, Int.reduceLT, Int.reduceLE, Int.reduceAdd, Int.reduceSub, Int.reduceMul, reduceCtorEq, cond_true, cond_false, forall_eq', forall_eq, forall_const, implies_true, if_true, if_false, exists_eq_left', exists_eq', exists_eq, ne_eq, Tryz.f122, tb122_161, tb122_162, spJnB_q, spJnB_A, spJnB_pre, spJnB_post, spEmp_q, spEmp_A, spEmp_pre, spEmp_post, spTidy_q, spTidy_A, spTidy_pre, spTidy_post]
  repeat' (first | apply And.intro | (intro _) | omega | assumption | with_reducible rfl)
  all_goals (first | (exact jn_1 hpre.1 hpre.2 ‹_›; done) | (exact jn_2 hpre.1 hpre.2 ‹_› ‹_›; done) | (exact jn_3 hpre.1 hpre.2 ‹_› ‹_›; done))
theorem sat_spec_join : Sat Tryz.prog rt0 122 (wkIn spJnB) := sat_in (sat_out sat_spec_join_0)
end Go.Proofs.YtkhplopcjkkejaaGreat
end
section
set_option maxRecDepth 100000
set_option linter.unusedSimpArgs false
set_option linter.unusedVariables false
namespace Go.Proofs.YtkhplopcjkkejaaGreat
open Go Go.VE
theorem isT_lt {w h i : Int} (hz : szd w h = true) (h0 : 0 ≤ i) (h1 : i < tcnt w h) : isT w h i = true := by
  rw [tcnt_of hz] at h1
  rw [isT, hz, decide_eq_true ⟨h0, h1⟩]; rfl
theorem tib {w h i : Int} (hz : szd w h = true) (h0 : 0 ≤ i) (h1 : i < tcnt w h) : (if isT w h i = true then tbox w h i else (⟨0, 0, 0, 0⟩ : Bx)) = tbox w h i := if_pos (isT_lt hz h0 h1)
theorem cut_em (c b : Bx) : (!emB (if emB ⟨max c.l b.l, max c.t b.t, min c.r b.r, min c.b b.b⟩ = true then ⟨0, 0, 0, 0⟩ else ⟨max c.l b.l, max c.t b.t, min c.r b.r, min c.b b.b⟩)) = ovB c b := by
  by_cases h : emB ⟨max c.l b.l, max c.t b.t, min c.r b.r, min c.b b.b⟩ = true
  · rw [if_pos h]
    have e : emB ⟨0, 0, 0, 0⟩ = true := rfl
    rw [e]
    simp only [emB, decide_eq_true_eq] at h
    rw [ovB, decide_eq_false (by omega)]; rfl
  · rw [if_neg h]
    have h2 := h
    simp only [emB, decide_eq_true_eq] at h2
    rw [ovB, decide_eq_true (by omega)]
    simpa using h
def spCut_A : Bx × Bx → List AV
  | (c, b) => [.agg (bxC c), .agg (bxC b)]
def spCut_pre : Bx × Bx → Prop
  | (c, b) => True
def spCut_post : Bx × Bx → AV → List Box → Prop
  | (c, b), r, bs => r = .agg (bxC (if emB ⟨max c.l b.l, max c.t b.t, min c.r b.r, min c.b b.b⟩ = true then ⟨0, 0, 0, 0⟩ else ⟨max c.l b.l, max c.t b.t, min c.r b.r, min c.b b.b⟩)) ∧ bs = []
def spCut : VE.Spec := famSpec spCut_A d_bx_bx spCut_pre spCut_post 0 true
theorem spCut_q : spCut.flat = true ∧ spCut.mt = [] ∧ spCut.shut = false ∧ spCut.cost = 0 ∧ (∀ a i, spCut.pre a i = (i = [] ∧ famPre d_bx_bx spCut_A spCut_pre a)) ∧ ∀ a i r b, spCut.post a i r b = (famPost d_bx_bx spCut_post a r b) := ⟨rfl, rfl, rfl, rfl, fun _ _ => rfl, fun _ _ _ _ => rfl⟩
def tb112 : Nat → Option VE.Spec := tabOf [(113, wkIn spEmB)]
theorem tb112_113 : tb112 113 = some (wkIn spEmB) := rfl
theorem tb112_ok : TabOK Tryz.prog rt0 tb112 := (tabOf_cons (by kernel_rfl) sat_impl_Box_empty tabOf_nil)
set_option maxHeartbeats 4000000 in
theorem sat_impl_Box_cut_0 : Sat Tryz.prog rt0 112 (wkOut spCut) := by
  refine fn_sat hm ttok (tab := tb112) tb112_ok Tryz.func112 (c := Tryz.f112.body.getD .skip) (by kernel_rfl) (ts := [.cell 4 69]) (by kernel_rfl) Tryz.ntmps112 (sq := fun _ => true) (by kernel_rfl) ?_
  intro args ins pk hpre0 hpk
  obtain ⟨rfl, hpre0⟩ := hpre0
  obtain ⟨⟨c, b⟩, rfl, hpre, hdec⟩ := famPre_ex hpre0
  clear hpre0 hdec
  try simp only [spCut_pre] at hpre
  replace hpk : pk + 0 ≤ pickLimit := hpk
  refine ⟨Nat.le_of_ble_eq_true rfl, ?_⟩
  simp (config := { maxSteps := 1000000 }) only [go_sem, ↓ifP_true, ↓ifP_false, ↓ifP_not, Nat.reduceLT, Nat.reduceAdd, Nat.reduceBEq, Nat.reduceSub, Nat.reduceLeDiff, Nat.reduceEqDiff, Nat.reduceMul, Int.reduceToNat, Int.reduceEq, Int.reduceLT, Int.reduceLE, Int.reduceAdd, Int.reduceSub, Int.reduceMul, reduceCtorEq, cond_true, cond_false, forall_eq', forall_eq, forall_const, implies_true, if_true, if_false, exists_eq_left', exists_eq', exists_eq, ne_eq, Tryz.f112, tb112_113, spCut_q, spCut_A, spCut_pre, spCut_post, spEmB_q, spEmB_A, spEmB_pre, spEmB_post]
  repeat' (first | apply And.intro | (intro _) | omega | assumption | with_reducible rfl)
  all_goals (first | ((rw [if_pos ‹_›]; rfl); done) | ((rw [if_neg (by simp [*])]; rfl); done) | (simp_all; done))
theorem sat_impl_Box_cut : Sat Tryz.prog rt0 112 (wkIn spCut) := sat_in (sat_out sat_impl_Box_cut_0)
def spTsI_A : Bx × Int × Int → List AV
  | (b, w, h) => [.agg (bxC b), I w, I h]
def spTsI_pre : Bx × Int × Int → Prop
  | (b, w, h) => szd w h = true ∧ prpB b
def spTsI_post : Bx × Int × Int → AV → List Box → Prop
  | (b, w, h), r, bs => r = .c (.own 0 (tsN b w h (tcnt w h).toNat).length false) ∧ bs = [⟨(tsN b w h (tcnt w h).toNat).map intC, 1, 3, true, false⟩]
def spTsI : VE.Spec := famSpec spTsI_A d_bx_i_i spTsI_pre spTsI_post 0 true
theorem spTsI_q : spTsI.flat = true ∧ spTsI.mt = [] ∧ spTsI.shut = false ∧ spTsI.cost = 0 ∧ (∀ a i, spTsI.pre a i = (i = [] ∧ famPre d_bx_i_i spTsI_A spTsI_pre a)) ∧ ∀ a i r b, spTsI.post a i r b = (famPost d_bx_i_i spTsI_post a r b) := ⟨rfl, rfl, rfl, rfl, fun _ _ => rfl, fun _ _ _ _ => rfl⟩
def spClipI_A : List Int → List AV := fun l => [.c (.own 0 l.length false)]
def spClipI_B : List Int → List Box := fun l => [⟨l.map intC, 1, 3, true, false⟩]
def spClipI_d : List AV → List Box → Option (List Int)
  | [.c (.own 0 _ false)], [⟨es, _, _, _, _⟩] => decAll intCd es
  | _, _ => none
def spClipI_pre : List Int → Prop := fun l => l.length ≤ 1000000000
def spClipI_post : List Int → AV → List Box → Prop := fun l r bs => r = .c (.own 0 (l).length false) ∧ bs = [⟨(l).map intC, 1, 3, true, false⟩]
def spClipI : VE.Spec := famSpecM spClipI_A spClipI_B spClipI_d spClipI_pre spClipI_post 0 false [true] false
theorem spClipI_q : spClipI.flat = false ∧ spClipI.mt = [true] ∧ spClipI.shut = false ∧ spClipI.cost = 0 ∧ (∀ a i, spClipI.pre a i = (famPreM spClipI_d spClipI_A spClipI_B spClipI_pre a i)) ∧ ∀ a i r b, spClipI.post a i r b = (famPostM spClipI_d spClipI_post a i r b) := ⟨rfl, rfl, rfl, rfl, fun _ _ => rfl, fun _ _ _ _ => rfl⟩
def tb114 : Nat → Option VE.Spec := tabOf []
theorem tb114_ok : TabOK Tryz.prog rt0 tb114 := tabOf_nil
set_option maxHeartbeats 4000000 in
theorem sat_slices_Clip_int_int_0 : Sat Tryz.prog rt0 114 (wkOut spClipI) := by
  refine fn_sat hm ttok (tab := tb114) tb114_ok Tryz.func114 (c := Tryz.f114.body.getD .skip) (by kernel_rfl) (ts := [.tmp 2]) (by kernel_rfl) Tryz.ntmps114 (sq := fun _ => true) (by kernel_rfl) ?_
  intro args ins pk hpre0 hpk
  obtain ⟨l, rfl, rfl, hpre, hdec⟩ := famPreM_ex hpre0
  clear hpre0 hdec
  try simp only [spClipI_pre] at hpre
  replace hpk : pk + 0 ≤ pickLimit := hpk
  refine ⟨Nat.le_of_ble_eq_true rfl, ?_⟩
  simp (config := { maxSteps := 1000000 }) only [go_sem, ↓ifP_true, ↓ifP_false, ↓ifP_not, Nat.reduceLT, Nat.reduceAdd, Nat.reduceBEq, Nat.reduceSub, Nat.reduceLeDiff, Nat.reduceEqDiff, Nat.reduceMul, Int.reduceToNat, Int.reduceEq, Int.reduceLT, Int.reduceLE, Int.reduceAdd, Int.reduceSub, Int.reduceMul, reduceCtorEq, cond_true, cond_false, forall_eq', forall_eq, forall_const, implies_true, if_true, if_false, exists_eq_left', exists_eq', exists_eq, ne_eq, Tryz.f114, spClipI_q, spClipI_A, spClipI_B, spClipI_d, spClipI_pre, spClipI_post]
  repeat' (first | apply And.intro | (intro _) | omega | assumption | with_reducible rfl)
  all_goals (first | (omega; done))
theorem sat_slices_Clip_int_int : Sat Tryz.prog rt0 114 (wkIn spClipI) := sat_in (sat_out sat_slices_Clip_int_int_0)
def tb71 : Nat → Option VE.Spec := tabOf [(43, wkIn spTc), (38, wkIn spTb), (112, wkIn spCut), (113, wkIn spEmB), (114, wkIn spClipI)]
theorem tb71_43 : tb71 43 = some (wkIn spTc) := rfl
theorem tb71_38 : tb71 38 = some (wkIn spTb) := rfl
theorem tb71_112 : tb71 112 = some (wkIn spCut) := rfl
theorem tb71_113 : tb71 113 = some (wkIn spEmB) := rfl
theorem tb71_114 : tb71 114 = some (wkIn spClipI) := rfl
theorem tb71_ok : TabOK Tryz.prog rt0 tb71 := (tabOf_cons (by kernel_rfl) sat_impl_TileCount (tabOf_cons (by kernel_rfl) sat_impl_TileBox (tabOf_cons (by kernel_rfl) sat_impl_Box_cut (tabOf_cons (by kernel_rfl) sat_impl_Box_empty (tabOf_cons (by kernel_rfl) sat_slices_Clip_int_int tabOf_nil)))))
set_option maxHeartbeats 4000000 in
theorem sat_impl_tilesIn_0 : Sat Tryz.prog rt0 71 (wkOut spTsI) := by
  refine fn_sat hm ttok (tab := tb71) tb71_ok Tryz.func71 (c := Tryz.f71.body.getD .skip) (by kernel_rfl) (ts := [.tmp 6]) (by kernel_rfl) Tryz.ntmps71 (sq := fun _ => true) (by kernel_rfl) ?_
  intro args ins pk hpre0 hpk
  obtain ⟨rfl, hpre0⟩ := hpre0
  obtain ⟨⟨b, w, h⟩, rfl, hpre, hdec⟩ := famPre_ex hpre0
  clear hpre0 hdec
  try simp only [spTsI_pre] at hpre
  replace hpk : pk + 0 ≤ pickLimit := hpk
  refine ⟨Nat.le_of_ble_eq_true rfl, ?_⟩
  have ha := acr_mul hpre.1
  have ht := tcnt_of hpre.1
  simp (config := { maxSteps := 1000000 }) only [go_sem, ↓ifP_true, ↓ifP_false, ↓ifP_not, Nat.reduceLT, Nat.reduceAdd, Nat.reduceBEq, Nat.reduceSub, Nat.reduceLeDiff, Nat.reduceEqDiff, Nat.reduceMul, Int.reduceToNat, Int.reduceEq, Int.reduceLT, Int.reduceLE, Int.reduceAdd, Int.reduceSub, Int.reduceMul, reduceCtorEq, cond_true, cond_false, forall_eq', forall_eq, forall_const, implies_true, if_true, if_false, exists_eq_left', exists_eq', exists_eq, ne_eq, Tryz.f71, tb71_43, tb71_38, tb71_112, tb71_113, tb71_114, spTsI_q, spTsI_A, spTsI_pre, spTsI_post, spTc_q, spTc_A, spTc_pre, spTc_post, spTb_q, spTb_A, spTb_pre, spTb_post, spCut_q, spCut_A, spCut_pre, spCut_post, spEmB_q, spEmB_A, spEmB_pre, spEmB_post, spClipI_q, spClipI_A, spClipI_B, spClipI_d, spClipI_pre, spClipI_post, cut_em]
  repeat' (first | apply And.intro | (intro _) | omega | assumption | with_reducible rfl)
  any_goals
    refine loopS (α := (List Int) × Int) false [0, 4, 5, 7, 8, 9, 10, 11, 12, 14, 15, 16, 17, 18, 19, 20, 21, 22, 23, 24, 25, 26, 27, 28, 29, 30, 31, 32, 33] (fun σ => [gId (σ.get 7)]) (fun σ x => [(7, .c (.own (gId (σ.get 7)) (x.1).length false)), (14, I x.2)]) (fun σ x => [(gId (σ.get 7), some ⟨(x.1).map intC, 1, 3, true, false⟩)]) (fun (o, i) => 0) (fun σ => (gL intCd σ (σ.get 7), gI (σ.get 14))) (fun σ τ => [(gId (σ.get 7), gId (τ.get 7))]) (fun (o, i) => (0 ≤ i ∧ i ≤ tcnt w h) ∧ o = tsN b w h i.toNat) (fun (o, i) => (tcnt w h - i).toNat) ⟨by (simp (config := { maxSteps := 1000000 }) only [go_sem, ↓ifP_true, ↓ifP_false, ↓ifP_not, Nat.reduceLT, Nat.reduceAdd, Nat.reduceBEq, Nat.reduceSub, Nat.reduceLeDiff, Nat.reduceEqDiff, Nat.reduceMul, Int.reduceToNat, Int.reduceEq, Int.reduceLT, Int.reduceLE, Int.reduceAdd, Int.reduceSub, Int.reduceMul, reduceCtorEq, cond_true, cond_false, forall_eq', forall_eq, forall_const, implies_true, if_true, if_false, exists_eq_left', exists_eq', exists_eq, ne_eq, Tryz.f71, tb71_43, tb71_38, tb71_112, tb71_113, tb71_114, spTsI_q, spTsI_A, spTsI_pre, spTsI_post, spTc_q, spTc_A, spTc_pre, spTc_post, spTb_q, spTb_A, spTb_pre, spTb_post, spCut_q, spCut_A, spCut_pre, spCut_post, spEmB_q, spEmB_A, spEmB_pre, spEmB_post, spClipI_q, spClipI_A, spClipI_B, spClipI_d, spClipI_pre, spClipI_post, cut_em]; (repeat' (first | apply And.intro | (intro _) | omega | assumption | with_reducible rfl)); all_goals (first | rfl | omega)), ?_⟩
    rintro ⟨o, i⟩ hinv
    try dsimp only at hinv
    simp (config := { maxSteps := 1000000 }) only [go_sem, ↓ifP_true, ↓ifP_false, ↓ifP_not, Nat.reduceLT, Nat.reduceAdd, Nat.reduceBEq, Nat.reduceSub, Nat.reduceLeDiff, Nat.reduceEqDiff, Nat.reduceMul, Int.reduceToNat, Int.reduceEq, Int.reduceLT, Int.reduceLE, Int.reduceAdd, Int.reduceSub, Int.reduceMul, reduceCtorEq, cond_true, cond_false, forall_eq', forall_eq, forall_const, implies_true, if_true, if_false, exists_eq_left', exists_eq', exists_eq, ne_eq, Tryz.f71, tb71_43, tb71_38, tb71_112, tb71_113, tb71_114, spTsI_q, spTsI_A, spTsI_pre, spTsI_post, spTc_q, spTc_A, spTc_pre, spTc_post, spTb_q, spTb_A, spTb_pre, spTb_post, spCut_q, spCut_A, spCut_pre, spCut_post, spEmB_q, spEmB_A, spEmB_pre, spEmB_post, spClipI_q, spClipI_A, spClipI_B, spClipI_d, spClipI_pre, spClipI_post, cut_em]
    have hol := tsN_len b w h i.toNat
    rw [← hinv.2] at hol
    repeat' (first | apply And.intro | (intro _) | omega | assumption | with_reducible rfl)
  
  all_goals (first | ((rename_i h1 h2; rw [tib hpre.1 hinv.1.1 h1] at h2; rw [hinv.2]; exact tsN_yes hinv.1.1 h2); done) | ((rename_i h1 h2; rw [tib hpre.1 hinv.1.1 h1] at h2; rw [hinv.2]; exact tsN_no hinv.1.1 h2); done) | ((rw [hinv.2, show i = tcnt w h by omega]); done) | (exact isT_lt hpre.1 hinv.1.1 (by omega); done) | (exact hpre.1; done) | ((rw [hinv.2]; refine tsN_yes hinv.1.1 ?_; simp only [ovB, decide_eq_true_eq]; omega); done) | ((rw [hinv.2]; refine tsN_no hinv.1.1 ?_; simp only [ovB, decide_eq_false_iff_not]; omega); done) | (skip; done))
theorem sat_impl_tilesIn : Sat Tryz.prog rt0 71 (wkIn spTsI) := sat_in (sat_out sat_impl_tilesIn_0)
end Go.Proofs.YtkhplopcjkkejaaGreat
end
section
set_option maxRecDepth 100000
set_option linter.unusedSimpArgs false
set_option linter.unusedVariables false
namespace Go.Proofs.YtkhplopcjkkejaaGreat
open Go Go.VE
def tb121 : Nat → Option VE.Spec := tabOf [(81, wkIn spTiles), (131, wkIn spTb2)]
theorem tb121_81 : tb121 81 = some (wkIn spTiles) := rfl
theorem tb121_131 : tb121 131 = some (wkIn spTb2) := rfl
theorem tb121_ok : TabOK Tryz.prog rt0 tb121 := (tabOf_cons (by kernel_rfl) sat_spec_tiles (tabOf_cons (by kernel_rfl) sat_spec_tileBox tabOf_nil))
set_option maxHeartbeats 4000000 in
theorem sat_spec_boxTiles_0 : Sat Tryz.prog rt0 121 (wkOut spTsI) := by
  refine fn_sat hm ttok (tab := tb121) tb121_ok Tryz.func121 (c := Tryz.f121.body.getD .skip) (by kernel_rfl) (ts := [.tmp 6]) (by kernel_rfl) Tryz.ntmps121 (sq := fun _ => true) (by kernel_rfl) ?_
  intro args ins pk hpre0 hpk
  obtain ⟨rfl, hpre0⟩ := hpre0
  obtain ⟨⟨b, w, h⟩, rfl, hpre, hdec⟩ := famPre_ex hpre0
  clear hpre0 hdec
  try simp only [spTsI_pre] at hpre
  replace hpk : pk + 0 ≤ pickLimit := hpk
  refine ⟨Nat.le_of_ble_eq_true rfl, ?_⟩
  have ha := acr_mul hpre.1
  have ht := tcnt_of hpre.1
  simp (config := { maxSteps := 1000000 }) only [go_sem, ↓ifP_true, ↓ifP_false, ↓ifP_not, Nat.reduceLT, Nat.reduceAdd, Nat.reduceBEq, Nat.reduceSub, Nat.reduceLeDiff, Nat.reduceEqDiff, Nat.reduceMul, Int.reduceToNat, Int.reduceEq, Int.reduceLT, Int.reduceLE, Int.reduceAdd, Int.reduceSub, Int.reduceMul, reduceCtorEq, cond_true, cond_false, forall_eq', forall_eq, forall_const, implies_true, if_true, if_false, exists_eq_left', exists_eq', exists_eq, ne_eq, Tryz.f121, tb121_81, tb121_131, spTsI_q, spTsI_A, spTsI_pre, spTsI_post, spTiles_q, spTiles_A, spTiles_pre, spTiles_post, spTb2_q, spTb2_A, spTb2_pre, spTb2_post]
  repeat' (first | apply And.intro | (intro _) | omega | assumption | with_reducible rfl)
  any_goals
    refine loopS (α := (List Int) × Int) false [0, 4, 5, 7, 8, 9, 10, 11, 12, 13, 14, 15, 16, 17, 18, 19, 20, 21, 22, 23, 24, 25, 26, 27, 28, 29, 30, 31, 32, 33, 34, 35, 36, 37, 38, 39, 40, 41, 42, 43, 44, 45, 46, 47, 48, 49] (fun σ => [gId (σ.get 7)]) (fun σ x => [(7, .c (.own (gId (σ.get 7)) (x.1).length false)), (8, I x.2)]) (fun σ x => [(gId (σ.get 7), some ⟨(x.1).map intC, 1, 3, true, false⟩)]) (fun (o, i) => 0) (fun σ => (gL intCd σ (σ.get 7), gI (σ.get 8))) (fun σ τ => [(gId (σ.get 7), gId (τ.get 7))]) (fun (o, i) => (0 ≤ i ∧ i ≤ tcnt w h) ∧ o = tsN b w h i.toNat) (fun (o, i) => (tcnt w h - i).toNat) ⟨by (simp (config := { maxSteps := 1000000 }) only [go_sem, ↓ifP_true, ↓ifP_false, ↓ifP_not, Nat.reduceLT, Nat.reduceAdd, Nat.reduceBEq, Nat.reduceSub, Nat.reduceLeDiff, Nat.reduceEqDiff, Nat.reduceMul, Int.reduceToNat, Int.reduceEq, Int.reduceLT, Int.reduceLE, Int.reduceAdd, Int.reduceSub, Int.reduceMul, reduceCtorEq, cond_true, cond_false, forall_eq', forall_eq, forall_const, implies_true, if_true, if_false, exists_eq_left', exists_eq', exists_eq, ne_eq, Tryz.f121, tb121_81, tb121_131, spTsI_q, spTsI_A, spTsI_pre, spTsI_post, spTiles_q, spTiles_A, spTiles_pre, spTiles_post, spTb2_q, spTb2_A, spTb2_pre, spTb2_post]; (repeat' (first | apply And.intro | (intro _) | omega | assumption | with_reducible rfl)); all_goals (first | rfl | omega)), ?_⟩
    rintro ⟨o, i⟩ hinv
    try dsimp only at hinv
    simp (config := { maxSteps := 1000000 }) only [go_sem, ↓ifP_true, ↓ifP_false, ↓ifP_not, Nat.reduceLT, Nat.reduceAdd, Nat.reduceBEq, Nat.reduceSub, Nat.reduceLeDiff, Nat.reduceEqDiff, Nat.reduceMul, Int.reduceToNat, Int.reduceEq, Int.reduceLT, Int.reduceLE, Int.reduceAdd, Int.reduceSub, Int.reduceMul, reduceCtorEq, cond_true, cond_false, forall_eq', forall_eq, forall_const, implies_true, if_true, if_false, exists_eq_left', exists_eq', exists_eq, ne_eq, Tryz.f121, tb121_81, tb121_131, spTsI_q, spTsI_A, spTsI_pre, spTsI_post, spTiles_q, spTiles_A, spTiles_pre, spTiles_post, spTb2_q, spTb2_A, spTb2_pre, spTb2_post]
    have hol := tsN_len b w h i.toNat
    rw [← hinv.2] at hol
    repeat' (first | apply And.intro | (intro _) | omega | assumption | with_reducible rfl)
  
  all_goals (first | ((rename_i h1 h2; rw [tib hpre.1 hinv.1.1 h1] at h2; rw [hinv.2]; exact tsN_yes hinv.1.1 h2); done) | ((rename_i h1 h2; rw [tib hpre.1 hinv.1.1 h1] at h2; rw [hinv.2]; exact tsN_no hinv.1.1 h2); done) | ((rw [hinv.2, show i = tcnt w h by omega]); done) | (exact isT_lt hpre.1 hinv.1.1 (by omega); done) | (exact hpre.1; done) | ((rw [hinv.2]; refine tsN_yes hinv.1.1 ?_; simp only [ovB, decide_eq_true_eq]; omega); done) | ((rw [hinv.2]; refine tsN_no hinv.1.1 ?_; simp only [ovB, decide_eq_false_iff_not]; omega); done) | (skip; done))
theorem sat_spec_boxTiles : Sat Tryz.prog rt0 121 (wkIn spTsI) := sat_in (sat_out sat_spec_boxTiles_0)
end Go.Proofs.YtkhplopcjkkejaaGreat
end
section
set_option maxRecDepth 100000
set_option linter.unusedSimpArgs false
set_option linter.unusedVariables false
namespace Go.Proofs.YtkhplopcjkkejaaGreat
open Go Go.VE
def spFlB_A : Fil → List AV
  | f => [.agg (flC f)]
def spFlB_pre : Fil → Prop
  | f => okF f ∧ vFil f = true
def spFlB_post : Fil → AV → List Box → Prop
  | f, r, bs => r = .agg (bxC (flB f.p)) ∧ bs = []
def spFlB : VE.Spec := famSpec spFlB_A d_fl spFlB_pre spFlB_post 0 true
theorem spFlB_q : spFlB.flat = true ∧ spFlB.mt = [] ∧ spFlB.shut = false ∧ spFlB.cost = 0 ∧ (∀ a i, spFlB.pre a i = (i = [] ∧ famPre d_fl spFlB_A spFlB_pre a)) ∧ ∀ a i r b, spFlB.post a i r b = (famPost d_fl spFlB_post a r b) := ⟨rfl, rfl, rfl, rfl, fun _ _ => rfl, fun _ _ _ _ => rfl⟩
theorem vFil_pts {f : Fil} (h : vFil f = true) : vPath f.p = true ∧ vRings (ringsOf f.p) = true ∧ (ringsOf f.p).length ≤ 31 ∧ total (ringsOf f.p) ≤ 1000000 := by
  simp only [vFil, Bool.and_eq_true] at h
  have h1 := rings_ok h.1.1.1
  have h2 := rings_total h.1.1.1
  exact ⟨h.1.1.1, h.1.1.2, h1.2.1, by omega⟩
theorem flB_0 {p : List Verb} (h : ((ringsOf p).flatten.length : Int) = 0) : flB p = ⟨0, 0, 0, 0⟩ := if_pos (List.eq_nil_of_length_eq_zero (by omega))
theorem fl_ne {l : List Pt} (h : ¬ (l.length : Int) = 0) : l ≠ [] := by rintro rfl; simp at h
theorem flB_1 {p : List Verb} (h : ¬ ((ringsOf p).flatten.length : Int) = 0) : flB p = pxB (bnd (ringsOf p).flatten) := if_neg (fl_ne h)
def fbV (f : Fil) : Bx := if vFil f = true then flB f.p else ⟨0, 0, 0, 0⟩
def spFbV_A : Fil → List AV
  | f => [.agg (flC f)]
def spFbV_pre : Fil → Prop
  | f => okF f
def spFbV_post : Fil → AV → List Box → Prop
  | f, r, bs => r = .agg (bxC (fbV f)) ∧ bs = []
def spFbV : VE.Spec := famSpec spFbV_A d_fl spFbV_pre spFbV_post 0 true
theorem spFbV_q : spFbV.flat = true ∧ spFbV.mt = [] ∧ spFbV.shut = false ∧ spFbV.cost = 0 ∧ (∀ a i, spFbV.pre a i = (i = [] ∧ famPre d_fl spFbV_A spFbV_pre a)) ∧ ∀ a i r b, spFbV.post a i r b = (famPost d_fl spFbV_post a r b) := ⟨rfl, rfl, rfl, rfl, fun _ _ => rfl, fun _ _ _ _ => rfl⟩
def tb72 : Nat → Option VE.Spec := tabOf [(61, wkIn spRings), (115, wkIn spCct), (117, wkIn spBnd), (116, wkIn spPxB)]
theorem tb72_61 : tb72 61 = some (wkIn spRings) := rfl
theorem tb72_115 : tb72 115 = some (wkIn spCct) := rfl
theorem tb72_117 : tb72 117 = some (wkIn spBnd) := rfl
theorem tb72_116 : tb72 116 = some (wkIn spPxB) := rfl
theorem tb72_ok : TabOK Tryz.prog rt0 tb72 := (tabOf_cons (by kernel_rfl) sat_impl_rings (tabOf_cons (by kernel_rfl) sat_slices_Concat_impl_Point_impl_Point (tabOf_cons (by kernel_rfl) sat_impl_boxOf (tabOf_cons (by kernel_rfl) sat_impl_PixelBox tabOf_nil))))
set_option maxHeartbeats 4000000 in
theorem sat_impl_Fill_box_0 : Sat Tryz.prog rt0 72 (wkOut spFlB) := by
  refine fn_sat hm ttok (tab := tb72) tb72_ok Tryz.func72 (c := Tryz.f72.body.getD .skip) (by kernel_rfl) (ts := [.cell 2 69]) (by kernel_rfl) Tryz.ntmps72 (sq := fun _ => true) (by kernel_rfl) ?_
  intro args ins pk hpre0 hpk
  obtain ⟨rfl, hpre0⟩ := hpre0
  obtain ⟨f, rfl, hpre, hdec⟩ := famPre_ex hpre0
  clear hpre0 hdec
  try simp only [spFlB_pre] at hpre
  replace hpk : pk + 0 ≤ pickLimit := hpk
  refine ⟨Nat.le_of_ble_eq_true rfl, ?_⟩
  obtain ⟨hv1, hv2, hv3, hv4⟩ := vFil_pts hpre.2
  have hun := flat_units hv2
  have hfl := flat_len (ringsOf f.p)
  simp (config := { maxSteps := 1000000 }) only [go_sem, ↓ifP_true, ↓ifP_false, ↓ifP_not, Nat.reduceLT, Nat.reduceAdd, Nat.reduceBEq, Nat.reduceSub, Nat.reduceLeDiff, Nat.reduceEqDiff, Nat.reduceMul, Int.reduceToNat, Int.reduceEq, Int.reduceLT, Int.reduceLE, Int.reduceAdd, Int.reduceSub, Int.reduceMul, reduceCtorEq, cond_true, cond_false, forall_eq', forall_eq, forall_const, implies_true, if_true, if_false, exists_eq_left', exists_eq', exists_eq, ne_eq, Tryz.f72, tb72_61, tb72_115, tb72_117, tb72_116, spFlB_q, spFlB_A, spFlB_pre, spFlB_post, spRings_q, spRings_A, spRings_pre, spRings_post, spCct_q, spCct_A, spCct_pre, spCct_post, spBnd_q, spBnd_A, spBnd_pre, spBnd_post, spPxB_q, spPxB_A, spPxB_pre, spPxB_post]
  repeat' (first | apply And.intro | (intro _) | omega | assumption | with_reducible rfl)
  all_goals (first | (exact hv1; done) | ((rw [hfl]; omega); done) | (omega; done) | (exact bnd_ok (fl_ne ‹_›) hun; done) | ((rw [flB_0 ‹_›]; rfl); done) | ((rw [flB_1 ‹_›]); done))
theorem sat_impl_Fill_box : Sat Tryz.prog rt0 72 (wkIn spFlB) := sat_in (sat_out sat_impl_Fill_box_0)
end Go.Proofs.YtkhplopcjkkejaaGreat
end
section
set_option maxRecDepth 100000
set_option linter.unusedSimpArgs false
set_option linter.unusedVariables false
namespace Go.Proofs.YtkhplopcjkkejaaGreat
open Go Go.VE
def tb123 : Nat → Option VE.Spec := tabOf [(93, wkIn spRings), (163, wkIn spCorners), (165, wkIn spBnd), (164, wkIn spPxB)]
theorem tb123_93 : tb123 93 = some (wkIn spRings) := rfl
theorem tb123_163 : tb123 163 = some (wkIn spCorners) := rfl
theorem tb123_165 : tb123 165 = some (wkIn spBnd) := rfl
theorem tb123_164 : tb123 164 = some (wkIn spPxB) := rfl
theorem tb123_ok : TabOK Tryz.prog rt0 tb123 := (tabOf_cons (by kernel_rfl) sat_spec_rings (tabOf_cons (by kernel_rfl) sat_spec_corners (tabOf_cons (by kernel_rfl) sat_spec_bounds (tabOf_cons (by kernel_rfl) sat_spec_pixelBox tabOf_nil))))
set_option maxHeartbeats 4000000 in
theorem sat_spec_fillBox_0 : Sat Tryz.prog rt0 123 (wkOut spFlB) := by
  refine fn_sat hm ttok (tab := tb123) tb123_ok Tryz.func123 (c := Tryz.f123.body.getD .skip) (by kernel_rfl) (ts := [.cell 2 69]) (by kernel_rfl) Tryz.ntmps123 (sq := fun _ => true) (by kernel_rfl) ?_
  intro args ins pk hpre0 hpk
  obtain ⟨rfl, hpre0⟩ := hpre0
  obtain ⟨f, rfl, hpre, hdec⟩ := famPre_ex hpre0
  clear hpre0 hdec
  try simp only [spFlB_pre] at hpre
  replace hpk : pk + 0 ≤ pickLimit := hpk
  refine ⟨Nat.le_of_ble_eq_true rfl, ?_⟩
  obtain ⟨hv1, hv2, hv3, hv4⟩ := vFil_pts hpre.2
  have hun := flat_units hv2
  have hfl := flat_len (ringsOf f.p)
  simp (config := { maxSteps := 1000000 }) only [go_sem, ↓ifP_true, ↓ifP_false, ↓ifP_not, Nat.reduceLT, Nat.reduceAdd, Nat.reduceBEq, Nat.reduceSub, Nat.reduceLeDiff, Nat.reduceEqDiff, Nat.reduceMul, Int.reduceToNat, Int.reduceEq, Int.reduceLT, Int.reduceLE, Int.reduceAdd, Int.reduceSub, Int.reduceMul, reduceCtorEq, cond_true, cond_false, forall_eq', forall_eq, forall_const, implies_true, if_true, if_false, exists_eq_left', exists_eq', exists_eq, ne_eq, Tryz.f123, tb123_93, tb123_163, tb123_165, tb123_164, spFlB_q, spFlB_A, spFlB_pre, spFlB_post, spRings_q, spRings_A, spRings_pre, spRings_post, spCorners_q, spCorners_A, spCorners_pre, spCorners_post, spBnd_q, spBnd_A, spBnd_pre, spBnd_post, spPxB_q, spPxB_A, spPxB_pre, spPxB_post]
  repeat' (first | apply And.intro | (intro _) | omega | assumption | with_reducible rfl)
  all_goals (first | (exact hv1; done) | ((rw [hfl]; omega); done) | (omega; done) | (exact bnd_ok (fl_ne ‹_›) hun; done) | ((rw [flB_0 ‹_›]; rfl); done) | ((rw [flB_1 ‹_›]); done))
theorem sat_spec_fillBox : Sat Tryz.prog rt0 123 (wkIn spFlB) := sat_in (sat_out sat_spec_fillBox_0)
end Go.Proofs.YtkhplopcjkkejaaGreat
end
section
set_option maxRecDepth 100000
set_option linter.unusedSimpArgs false
set_option linter.unusedVariables false
namespace Go.Proofs.YtkhplopcjkkejaaGreat
open Go Go.VE
def okRp (s : Scn) (a : Int) (f : Fil) : Bool := vScn s && decide (0 ≤ a ∧ a ≤ (s.fs.length : Int) - 1) && vFil f
def dmgB (s : Scn) (a : Int) (f : Fil) : Bx := jnB (flB ((s.fs[a.toNat]?).getD f).p) (flB f.p)
def dmg (s : Scn) (a : Int) (f : Fil) : List Int := if okRp s a f = true then tsN (dmgB s a f) s.w s.h (tcnt s.w s.h).toNat else []
theorem rp_parts {s : Scn} {a : Int} {f : Fil} (h : okRp s a f = true) : vScn s = true ∧ 0 ≤ a ∧ a ≤ (s.fs.length : Int) - 1 ∧ vFil f = true := by
  simp only [okRp, Bool.and_eq_true, decide_eq_true_eq] at h
  exact ⟨h.1.1, h.1.2.1, h.1.2.2, h.2⟩
theorem rp_of {s : Scn} {a : Int} {f : Fil} (h1 : vScn s = true) (h2 : 0 ≤ a) (h3 : a ≤ (s.fs.length : Int) - 1) (h4 : vFil f = true) : okRp s a f = true := by
  rw [okRp, h1, h4, decide_eq_true ⟨h2, h3⟩]; rfl
theorem rp_n1 {s : Scn} {a : Int} {f : Fil} (h : vScn s = false) : okRp s a f = false := by rw [okRp, h]; rfl
theorem rp_n2 {s : Scn} {a : Int} {f : Fil} (h : ¬ (0 ≤ a ∧ a ≤ (s.fs.length : Int) - 1)) : okRp s a f = false := by rw [okRp, decide_eq_false h, Bool.and_false]; rfl
theorem rp_n3 {s : Scn} {a : Int} {f : Fil} (h : vFil f = false) : okRp s a f = false := by rw [okRp, h, Bool.and_false]
theorem dmg_no {s : Scn} {a : Int} {f : Fil} (h : okRp s a f = false) : dmg s a f = [] := if_neg (by rw [h]; decide)
theorem dmg_yes {s : Scn} {a : Int} {f g : Fil} (h : okRp s a f = true) (hg : s.fs[a.toNat]? = some g) : tsN (jnB (flB g.p) (flB f.p)) s.w s.h (tcnt s.w s.h).toNat = dmg s a f := by
  rw [dmg, if_pos h, dmgB, hg]; rfl
theorem vScn_fil {s : Scn} {g : Fil} {i : Nat} (h : vScn s = true) (hg : s.fs[i]? = some g) : vFil g = true := List.all_eq_true.1 (vScn_parts h).2.2 g (List.mem_of_getElem? hg)
theorem jnB_prp {a b : Bx} (ha : prpB a) (hb : prpB b) : prpB (jnB a b) := by
  unfold jnB
  split
  · split
    · exact ⟨.inl rfl, by simp⟩
    · exact hb
  · split
    · exact ha
    · rename_i h1 h2
      rw [prp_em ha, decide_eq_true_eq] at h1
      rw [prp_em hb, decide_eq_true_eq] at h2
      obtain ⟨ha1, ha2⟩ := ha
      obtain ⟨hb1, hb2⟩ := hb
      rcases ha1 with rfl | ha1
      · exact absurd (.inl rfl) h1
      · rcases hb1 with rfl | hb1
        · exact absurd (.inl rfl) h2
        · refine ⟨.inr ?_, ?_⟩ <;> dsimp only <;> omega
def spRpl_A : Scn × Int × Fil → List AV
  | (s, a, f) => [.agg (scC s), I a, .agg (flC f)]
def spRpl_pre : Scn × Int × Fil → Prop
  | (s, a, f) => okFs s.fs ∧ okF f
def spRpl_post : Scn × Int × Fil → AV → List Box → Prop
  | (s, a, f), r, bs => r = B (okRp s a f) ∧ bs = []
def spRpl : VE.Spec := famSpec spRpl_A d_sc_i_fl spRpl_pre spRpl_post 0 true
theorem spRpl_q : spRpl.flat = true ∧ spRpl.mt = [] ∧ spRpl.shut = false ∧ spRpl.cost = 0 ∧ (∀ a i, spRpl.pre a i = (i = [] ∧ famPre d_sc_i_fl spRpl_A spRpl_pre a)) ∧ ∀ a i r b, spRpl.post a i r b = (famPost d_sc_i_fl spRpl_post a r b) := ⟨rfl, rfl, rfl, rfl, fun _ _ => rfl, fun _ _ _ _ => rfl⟩
def tb70 : Nat → Option VE.Spec := tabOf [(17, wkIn spVScn), (58, wkIn spIn), (55, wkIn spVFil)]
theorem tb70_17 : tb70 17 = some (wkIn spVScn) := rfl
theorem tb70_58 : tb70 58 = some (wkIn spIn) := rfl
theorem tb70_55 : tb70 55 = some (wkIn spVFil) := rfl
theorem tb70_ok : TabOK Tryz.prog rt0 tb70 := (tabOf_cons (by kernel_rfl) sat_impl_ValidScene (tabOf_cons (by kernel_rfl) sat_impl_in (tabOf_cons (by kernel_rfl) sat_impl_Fill_valid tabOf_nil)))
set_option maxHeartbeats 4000000 in
theorem sat_impl_replaceable_0 : Sat Tryz.prog rt0 70 (wkOut spRpl) := by
  refine fn_sat hm ttok (tab := tb70) tb70_ok Tryz.func70 (c := Tryz.f70.body.getD .skip) (by kernel_rfl) (ts := [.tmp 6]) (by kernel_rfl) Tryz.ntmps70 (sq := fun _ => true) (by kernel_rfl) ?_
  intro args ins pk hpre0 hpk
  obtain ⟨rfl, hpre0⟩ := hpre0
  obtain ⟨⟨s, a, f⟩, rfl, hpre, hdec⟩ := famPre_ex hpre0
  clear hpre0 hdec
  try simp only [spRpl_pre] at hpre
  replace hpk : pk + 0 ≤ pickLimit := hpk
  refine ⟨Nat.le_of_ble_eq_true rfl, ?_⟩
  simp (config := { maxSteps := 1000000 }) only [go_sem, ↓ifP_true, ↓ifP_false, ↓ifP_not, Nat.reduceLT, Nat.reduceAdd, Nat.reduceBEq, Nat.reduceSub, Nat.reduceLeDiff, Nat.reduceEqDiff, Nat.reduceMul, Int.reduceToNat, Int.reduceEq, Int.reduceLT, Int.reduceLE, Int.reduceAdd, Int.reduceSub, Int.reduceMul, reduceCtorEq, cond_true, cond_false, forall_eq', forall_eq, forall_const, implies_true, if_true, if_false, exists_eq_left', exists_eq', exists_eq, ne_eq, Tryz.f70, tb70_17, tb70_58, tb70_55, spRpl_q, spRpl_A, spRpl_pre, spRpl_post, spVScn_q, spVScn_A, spVScn_pre, spVScn_post, spIn_q, spIn_A, spIn_pre, spIn_post, spVFil_q, spVFil_A, spVFil_pre, spVFil_post]
  repeat' (first | apply And.intro | (intro _) | omega | assumption | with_reducible rfl)
  all_goals (first | (exact hpre.1; done) | (exact hpre.2; done) | ((have h9 := hpre.1.len; omega); done) | (exact (rp_n1 ‹_›).symm; done) | (exact (rp_n2 ‹_›).symm; done) | (exact (rp_n3 ‹_›).symm; done) | ((simp [okRp, *]; done); done) | (simp_all [okRp]; done))
theorem sat_impl_replaceable : Sat Tryz.prog rt0 70 (wkIn spRpl) := sat_in (sat_out sat_impl_replaceable_0)
def spDmg_A : Scn × Int × Fil → List AV
  | (s, a, f) => [.agg (scC s), I a, .agg (flC f)]
def spDmg_pre : Scn × Int × Fil → Prop
  | (s, a, f) => okFs s.fs ∧ okF f
def spDmg_post : Scn × Int × Fil → AV → List Box → Prop
  | (s, a, f), r, bs => r = .c (.sl false (((dmg s a f)).map intC)) ∧ bs = []
def spDmg : VE.Spec := famSpecS spDmg_A d_sc_i_fl spDmg_pre spDmg_post 0 false
theorem spDmg_q : spDmg.flat = false ∧ spDmg.mt = [] ∧ spDmg.shut = true ∧ spDmg.cost = 0 ∧ (∀ a i, spDmg.pre a i = (i = [] ∧ famPre d_sc_i_fl spDmg_A spDmg_pre a)) ∧ ∀ a i r b, spDmg.post a i r b = (famPost d_sc_i_fl spDmg_post a r b) := ⟨rfl, rfl, rfl, rfl, fun _ _ => rfl, fun _ _ _ _ => rfl⟩
def tb29 : Nat → Option VE.Spec := tabOf [(70, wkIn spRpl), (72, wkIn spFlB), (73, wkIn spJnB), (71, wkIn spTsI)]
theorem tb29_70 : tb29 70 = some (wkIn spRpl) := rfl
theorem tb29_72 : tb29 72 = some (wkIn spFlB) := rfl
theorem tb29_73 : tb29 73 = some (wkIn spJnB) := rfl
theorem tb29_71 : tb29 71 = some (wkIn spTsI) := rfl
theorem tb29_ok : TabOK Tryz.prog rt0 tb29 := (tabOf_cons (by kernel_rfl) sat_impl_replaceable (tabOf_cons (by kernel_rfl) sat_impl_Fill_box (tabOf_cons (by kernel_rfl) sat_impl_Box_join (tabOf_cons (by kernel_rfl) sat_impl_tilesIn tabOf_nil))))
set_option maxHeartbeats 4000000 in
theorem sat_impl_DamageOf_0 : Sat Tryz.prog rt0 29 (wkOut spDmg) := by
  refine fn_sat hm ttok (tab := tb29) tb29_ok Tryz.func29 (c := Tryz.f29.body.getD .skip) (by kernel_rfl) (ts := [.tmp 6]) (by kernel_rfl) Tryz.ntmps29 (sq := fun id => !(id == 3)) (by kernel_rfl) ?_
  intro args ins pk hpre0 hpk
  obtain ⟨rfl, hpre0⟩ := hpre0
  obtain ⟨⟨s, a, f⟩, rfl, hpre, hdec⟩ := famPre_ex hpre0
  clear hpre0 hdec
  try simp only [spDmg_pre] at hpre
  replace hpk : pk + 0 ≤ pickLimit := hpk
  refine ⟨Nat.le_of_ble_eq_true rfl, ?_⟩
  simp (config := { maxSteps := 1000000 }) only [go_sem, ↓ifP_true, ↓ifP_false, ↓ifP_not, Nat.reduceLT, Nat.reduceAdd, Nat.reduceBEq, Nat.reduceSub, Nat.reduceLeDiff, Nat.reduceEqDiff, Nat.reduceMul, Int.reduceToNat, Int.reduceEq, Int.reduceLT, Int.reduceLE, Int.reduceAdd, Int.reduceSub, Int.reduceMul, reduceCtorEq, cond_true, cond_false, forall_eq', forall_eq, forall_const, implies_true, if_true, if_false, exists_eq_left', exists_eq', exists_eq, ne_eq, Tryz.f29, tb29_70, tb29_72, tb29_73, tb29_71, spDmg_q, spDmg_A, spDmg_pre, spDmg_post, spRpl_q, spRpl_A, spRpl_pre, spRpl_post, spFlB_q, spFlB_A, spFlB_pre, spFlB_post, spJnB_q, spJnB_A, spJnB_pre, spJnB_post, spTsI_q, spTsI_A, spTsI_pre, spTsI_post]
  repeat' (first | apply And.intro | (intro _) | omega | assumption | with_reducible rfl)
  all_goals try (refine drawI (VE.Plan.first 0 (VE.Plan.first 1 (VE.Plan.first 2 (VE.Plan.first 3 (VE.Plan.first 4 (VE.Plan.first 6 (VE.Plan.first 9 (VE.Plan.first 10 (VE.Plan.first 11 (VE.Plan.first 12 (VE.Plan.alt 5 (VE.Plan.alt 7 (VE.Plan.alt 8 (VE.Plan.alt 13 (VE.Plan.alt 14 VE.Plan.nil VE.Plan.nil) VE.Plan.nil) VE.Plan.nil) VE.Plan.nil) VE.Plan.nil))))))))))) (by decide +kernel) ?_; simp (config := { maxSteps := 1000000 }) only [go_sem, ↓ifP_true, ↓ifP_false, ↓ifP_not, Nat.reduceLT, Nat.reduceAdd, Nat.reduceBEq, Nat.reduceSub, Nat.reduceLeDiff, Nat.reduceEqDiff, Nat.reduceMul, Int.reduceToNat, Int.reduceEq, Int.reduceLT, Int.reduceLE, Int.reduceAdd, Int.reduceSub, Int.reduceMul, reduceCtorEq, cond_true, cond_false, forall_eq', forall_eq, forall_const, implies_true, if_true, if_false, exists_eq_left', exists_eq', exists_eq, ne_eq, planW, stepW, Tryz.f29, tb29_70, tb29_72, tb29_73, tb29_71, spDmg_q, spDmg_A, spDmg_pre, spDmg_post, spRpl_q, spRpl_A, spRpl_pre, spRpl_post, spFlB_q, spFlB_A, spFlB_pre, spFlB_post, spJnB_q, spJnB_A, spJnB_pre, spJnB_post, spTsI_q, spTsI_A, spTsI_pre, spTsI_post]; repeat' (first | apply And.intro | (intro _) | omega | assumption | with_reducible rfl))
  all_goals (first | (exact hpre; done) | (exact hpre.1; done) | (exact hpre.2; done) | ((have h9 := rp_parts ‹okRp s a f = true›; omega); done) | (exact ⟨okFs_at hpre.1 ‹_›, vScn_fil (rp_parts ‹okRp s a f = true›).1 ‹_›⟩; done) | (exact ⟨hpre.2, (rp_parts ‹okRp s a f = true›).2.2.2⟩; done) | (exact hpre.2.1; done) | (exact okFs_at hpre.1 ‹_›; done) | (exact vScn_fil (rp_parts ‹okRp s a f = true›).1 ‹_›; done) | (exact (rp_parts ‹okRp s a f = true›).2.2.2; done) | (exact flB_prp (vFil_pts (vScn_fil (rp_parts ‹okRp s a f = true›).1 ‹_›)).2.1; done) | (exact flB_prp (vFil_pts (rp_parts ‹okRp s a f = true›).2.2.2).2.1; done) | (exact (vScn_parts (rp_parts ‹okRp s a f = true›).1).1; done) | (exact jnB_prp (flB_prp (vFil_pts (vScn_fil (rp_parts ‹okRp s a f = true›).1 ‹_›)).2.1) (flB_prp (vFil_pts (rp_parts ‹okRp s a f = true›).2.2.2).2.1); done) | ((rw [dmg_yes ‹_› ‹_›]); done) | ((rw [dmg_no ‹_›]; rfl); done) | (skip; done))
theorem sat_impl_DamageOf : Sat Tryz.prog rt0 29 (wkIn spDmg) := sat_in (sat_out sat_impl_DamageOf_0)
end Go.Proofs.YtkhplopcjkkejaaGreat
end
section
set_option maxRecDepth 100000
set_option linter.unusedSimpArgs false
set_option linter.unusedVariables false
namespace Go.Proofs.YtkhplopcjkkejaaGreat
open Go Go.VE
def spDmg2_A : Scn × Int × Fil → List AV
  | (s, a, f) => [.agg (scC s), I a, .agg (flC f)]
def spDmg2_pre : Scn × Int × Fil → Prop
  | (s, a, f) => okFs s.fs ∧ okF f ∧ okRp s a f = true
def spDmg2_post : Scn × Int × Fil → AV → List Box → Prop
  | (s, a, f), r, bs => r = .c (.sl false (((dmg s a f)).map intC)) ∧ bs = []
def spDmg2 : VE.Spec := famSpecS spDmg2_A d_sc_i_fl spDmg2_pre spDmg2_post 0 false
theorem spDmg2_q : spDmg2.flat = false ∧ spDmg2.mt = [] ∧ spDmg2.shut = true ∧ spDmg2.cost = 0 ∧ (∀ a i, spDmg2.pre a i = (i = [] ∧ famPre d_sc_i_fl spDmg2_A spDmg2_pre a)) ∧ ∀ a i r b, spDmg2.post a i r b = (famPost d_sc_i_fl spDmg2_post a r b) := ⟨rfl, rfl, rfl, rfl, fun _ _ => rfl, fun _ _ _ _ => rfl⟩
def tb75 : Nat → Option VE.Spec := tabOf [(123, wkIn spFlB), (122, wkIn spJnB), (121, wkIn spTsI)]
theorem tb75_123 : tb75 123 = some (wkIn spFlB) := rfl
theorem tb75_122 : tb75 122 = some (wkIn spJnB) := rfl
theorem tb75_121 : tb75 121 = some (wkIn spTsI) := rfl
theorem tb75_ok : TabOK Tryz.prog rt0 tb75 := (tabOf_cons (by kernel_rfl) sat_spec_fillBox (tabOf_cons (by kernel_rfl) sat_spec_join (tabOf_cons (by kernel_rfl) sat_spec_boxTiles tabOf_nil)))
set_option maxHeartbeats 4000000 in
theorem sat_spec_damage_0 : Sat Tryz.prog rt0 75 (wkOut spDmg2) := by
  refine fn_sat hm ttok (tab := tb75) tb75_ok Tryz.func75 (c := Tryz.f75.body.getD .skip) (by kernel_rfl) (ts := [.tmp 6]) (by kernel_rfl) Tryz.ntmps75 (sq := fun id => !(id == 1)) (by kernel_rfl) ?_
  intro args ins pk hpre0 hpk
  obtain ⟨rfl, hpre0⟩ := hpre0
  obtain ⟨⟨s, a, f⟩, rfl, hpre, hdec⟩ := famPre_ex hpre0
  clear hpre0 hdec
  try simp only [spDmg2_pre] at hpre
  replace hpk : pk + 0 ≤ pickLimit := hpk
  refine ⟨Nat.le_of_ble_eq_true rfl, ?_⟩
  have hok := hpre.2.2
  simp (config := { maxSteps := 1000000 }) only [go_sem, ↓ifP_true, ↓ifP_false, ↓ifP_not, Nat.reduceLT, Nat.reduceAdd, Nat.reduceBEq, Nat.reduceSub, Nat.reduceLeDiff, Nat.reduceEqDiff, Nat.reduceMul, Int.reduceToNat, Int.reduceEq, Int.reduceLT, Int.reduceLE, Int.reduceAdd, Int.reduceSub, Int.reduceMul, reduceCtorEq, cond_true, cond_false, forall_eq', forall_eq, forall_const, implies_true, if_true, if_false, exists_eq_left', exists_eq', exists_eq, ne_eq, Tryz.f75, tb75_123, tb75_122, tb75_121, spDmg2_q, spDmg2_A, spDmg2_pre, spDmg2_post, spFlB_q, spFlB_A, spFlB_pre, spFlB_post, spJnB_q, spJnB_A, spJnB_pre, spJnB_post, spTsI_q, spTsI_A, spTsI_pre, spTsI_post]
  repeat' (first | apply And.intro | (intro _) | omega | assumption | with_reducible rfl)
  all_goals try (refine drawI (VE.Plan.first 0 (VE.Plan.first 1 (VE.Plan.first 2 (VE.Plan.first 3 (VE.Plan.first 4 (VE.Plan.first 6 (VE.Plan.first 9 (VE.Plan.first 10 (VE.Plan.first 11 (VE.Plan.first 12 (VE.Plan.alt 5 (VE.Plan.alt 7 (VE.Plan.alt 8 (VE.Plan.alt 13 (VE.Plan.alt 14 VE.Plan.nil VE.Plan.nil) VE.Plan.nil) VE.Plan.nil) VE.Plan.nil) VE.Plan.nil))))))))))) (by decide +kernel) ?_; simp (config := { maxSteps := 1000000 }) only [go_sem, ↓ifP_true, ↓ifP_false, ↓ifP_not, Nat.reduceLT, Nat.reduceAdd, Nat.reduceBEq, Nat.reduceSub, Nat.reduceLeDiff, Nat.reduceEqDiff, Nat.reduceMul, Int.reduceToNat, Int.reduceEq, Int.reduceLT, Int.reduceLE, Int.reduceAdd, Int.reduceSub, Int.reduceMul, reduceCtorEq, cond_true, cond_false, forall_eq', forall_eq, forall_const, implies_true, if_true, if_false, exists_eq_left', exists_eq', exists_eq, ne_eq, planW, stepW, Tryz.f75, tb75_123, tb75_122, tb75_121, spDmg2_q, spDmg2_A, spDmg2_pre, spDmg2_post, spFlB_q, spFlB_A, spFlB_pre, spFlB_post, spJnB_q, spJnB_A, spJnB_pre, spJnB_post, spTsI_q, spTsI_A, spTsI_pre, spTsI_post]; repeat' (first | apply And.intro | (intro _) | omega | assumption | with_reducible rfl))
  all_goals (first | (exact hpre; done) | (exact hpre.1; done) | (exact hpre.2; done) | ((have h9 := rp_parts ‹okRp s a f = true›; omega); done) | (exact ⟨okFs_at hpre.1 ‹_›, vScn_fil (rp_parts ‹okRp s a f = true›).1 ‹_›⟩; done) | (exact ⟨hpre.2, (rp_parts ‹okRp s a f = true›).2.2.2⟩; done) | (exact hpre.2.1; done) | (exact okFs_at hpre.1 ‹_›; done) | (exact vScn_fil (rp_parts ‹okRp s a f = true›).1 ‹_›; done) | (exact (rp_parts ‹okRp s a f = true›).2.2.2; done) | (exact flB_prp (vFil_pts (vScn_fil (rp_parts ‹okRp s a f = true›).1 ‹_›)).2.1; done) | (exact flB_prp (vFil_pts (rp_parts ‹okRp s a f = true›).2.2.2).2.1; done) | (exact (vScn_parts (rp_parts ‹okRp s a f = true›).1).1; done) | (exact jnB_prp (flB_prp (vFil_pts (vScn_fil (rp_parts ‹okRp s a f = true›).1 ‹_›)).2.1) (flB_prp (vFil_pts (rp_parts ‹okRp s a f = true›).2.2.2).2.1); done) | ((rw [dmg_yes ‹_› ‹_›]); done) | ((rw [dmg_no ‹_›]; rfl); done) | (skip; done))
theorem sat_spec_damage : Sat Tryz.prog rt0 75 (wkIn spDmg2) := sat_in (sat_out sat_spec_damage_0)
def tb31 : Nat → Option VE.Spec := tabOf [(49, wkIn spVScn), (50, wkIn spIn), (74, wkIn spVFil), (75, wkIn spDmg2)]
theorem tb31_49 : tb31 49 = some (wkIn spVScn) := rfl
theorem tb31_50 : tb31 50 = some (wkIn spIn) := rfl
theorem tb31_74 : tb31 74 = some (wkIn spVFil) := rfl
theorem tb31_75 : tb31 75 = some (wkIn spDmg2) := rfl
theorem tb31_ok : TabOK Tryz.prog rt0 tb31 := (tabOf_cons (by kernel_rfl) sat_spec_validScene (tabOf_cons (by kernel_rfl) sat_spec_inRange (tabOf_cons (by kernel_rfl) sat_spec_validFill (tabOf_cons (by kernel_rfl) sat_spec_damage tabOf_nil))))
set_option maxHeartbeats 4000000 in
theorem sat_spec_DamageOf_0 : Sat Tryz.prog rt0 31 (wkOut spDmg) := by
  refine fn_sat hm ttok (tab := tb31) tb31_ok Tryz.func31 (c := Tryz.f31.body.getD .skip) (by kernel_rfl) (ts := [.tmp 6]) (by kernel_rfl) Tryz.ntmps31 (sq := fun _ => true) (by kernel_rfl) ?_
  intro args ins pk hpre0 hpk
  obtain ⟨rfl, hpre0⟩ := hpre0
  obtain ⟨⟨s, a, f⟩, rfl, hpre, hdec⟩ := famPre_ex hpre0
  clear hpre0 hdec
  try simp only [spDmg_pre] at hpre
  replace hpk : pk + 0 ≤ pickLimit := hpk
  refine ⟨Nat.le_of_ble_eq_true rfl, ?_⟩
  simp (config := { maxSteps := 1000000 }) only [go_sem, ↓ifP_true, ↓ifP_false, ↓ifP_not, Nat.reduceLT, Nat.reduceAdd, Nat.reduceBEq, Nat.reduceSub, Nat.reduceLeDiff, Nat.reduceEqDiff, Nat.reduceMul, Int.reduceToNat, Int.reduceEq, Int.reduceLT, Int.reduceLE, Int.reduceAdd, Int.reduceSub, Int.reduceMul, reduceCtorEq, cond_true, cond_false, forall_eq', forall_eq, forall_const, implies_true, if_true, if_false, exists_eq_left', exists_eq', exists_eq, ne_eq, Tryz.f31, tb31_49, tb31_50, tb31_74, tb31_75, spDmg_q, spDmg_A, spDmg_pre, spDmg_post, spVScn_q, spVScn_A, spVScn_pre, spVScn_post, spIn_q, spIn_A, spIn_pre, spIn_post, spVFil_q, spVFil_A, spVFil_pre, spVFil_post, spDmg2_q, spDmg2_A, spDmg2_pre, spDmg2_post]
  repeat' (first | apply And.intro | (intro _) | omega | assumption | with_reducible rfl)
  all_goals (first | (exact hpre.1; done) | (exact hpre.2; done) | ((have h9 := hpre.1.len; omega); done) | (exact rp_of ‹_› ‹_› ‹_› ‹_›; done) | (exact ⟨hpre.1, hpre.2, rp_of ‹_› ‹_› ‹_› ‹_›⟩; done) | (rfl; done) | ((rw [dmg_no (rp_n1 ‹_›)]; rfl); done) | ((rw [dmg_no (rp_n2 ‹_›)]; rfl); done) | ((rw [dmg_no (rp_n3 ‹_›)]; rfl); done))
theorem sat_spec_DamageOf : Sat Tryz.prog rt0 31 (wkIn spDmg) := sat_in (sat_out sat_spec_DamageOf_0)
end Go.Proofs.YtkhplopcjkkejaaGreat
end
