/- Contracts of functions of the program vectorraster, each proved for all states that fit its description. No conditions. -/
import Derived.Test.YtcejoknapbhloaaGreatED
import Derived.Test.YtcejoknapbhloaaGreatPE
import Derived.Test.YtcejoknapbhloaaGreatP7KQ
import Derived.Test.YtcejoknapbhloaaGreatPD
import Derived.Test.YtcejoknapbhloaaGreatPC
import Derived.Test.YtcejoknapbhloaaGreatPA
import Derived.Test.YtcejoknapbhloaaGreatPQ
import Derived.Test.YtcejoknapbhloaaGreatPV
import Derived.Test.YtcejoknapbhloaaGreatPO
import Derived.Shelf.Spec.SlicesGrow
import Derived.Test.YtcejoknapbhloaaGreatRows
set_option linter.unusedSimpArgs false
set_option linter.unusedVariables false
section
namespace Go.Proofs
open Go.Shelf
def YtcejoknapbhloaaGreat.growP_ren : Go.Shelf.Ren := ⟨fun | 4 => 139 | n => n, fun | 22 => 129 | 25 => 40 | 3 => 3 | 4 => 4 | 9 => 9 | 20 => 20 | 0 => 0 | 2 => 3 | n => n, fun | n => n⟩
theorem YtcejoknapbhloaaGreat.growP : Go.Proofs.Lays8.n4 Tryz.prog YtcejoknapbhloaaGreat.growP_ren := {
  mixed := by kernel_rfl
  f4 := ⟨Tryz.f139.name, by decide, Tryz.func139.trans (congrArg some (by kernel_rfl))⟩
  t0 := Tryz.underlying0
  a0 := Tryz.isAgg0
  z0 := Tryz.sizeOf0
  v0 := Tryz.zeroValue0
  t3 := Tryz.underlying3
  a3 := Tryz.isAgg3
  z3 := Tryz.sizeOf3
  v3 := Tryz.zeroValue3
  t4 := Tryz.underlying4
  a4 := Tryz.isAgg4
  z4 := Tryz.sizeOf4
  v4 := Tryz.zeroValue4
  t9 := Tryz.underlying9
  a9 := Tryz.isAgg9
  z9 := Tryz.sizeOf9
  v9 := Tryz.zeroValue9
  t20 := Tryz.underlying20
  a20 := Tryz.isAgg20
  z20 := Tryz.sizeOf20
  v20 := Tryz.zeroValue20
  t22 := Tryz.underlying129
  a22 := Tryz.isAgg129
  z22 := Tryz.sizeOf129
  v22 := Tryz.zeroValue129 }
end Go.Proofs
end
section
set_option maxRecDepth 100000
set_option linter.unusedSimpArgs false
set_option linter.unusedVariables false
namespace Go.Proofs.YtcejoknapbhloaaGreat
open Go Go.VE
theorem sat_slices_Grow_impl_Point_impl_Point_0 : Sat Tryz.prog rt0 139 (spGrow 2 40 1000000) := sat_grow (ρ := growP_ren) growP ttok (te := ⟨.struct [(3, 0, 1), (3, 1, 1)], 2, 16, [.int .i64 0, .int .i64 0], true⟩) rfl (by decide) (by decide) (by decide)
theorem sat_slices_Grow_impl_Point_impl_Point : Sat Tryz.prog rt0 139 (wkIn (spGrow 2 40 1000000)) := sat_in sat_slices_Grow_impl_Point_impl_Point_0
def spCct_A : (List (List Pt)) → List AV
  | L => [.c (.sl false (L.map lptC))]
def spCct_pre : (List (List Pt)) → Prop
  | L => total L ≤ 1000000 ∧ L.length ≤ 1000000
def spCct_post : (List (List Pt)) → AV → List Box → Prop
  | L, r, bs => r = .c (.own 0 (L.flatten).length false) ∧ bs = [⟨(L.flatten).map ptC, 2, 40, true, false⟩]
def spCct : VE.Spec := famSpec spCct_A d_llpt spCct_pre spCct_post 0 false
theorem spCct_q : spCct.flat = false ∧ spCct.mt = [] ∧ spCct.shut = false ∧ spCct.cost = 0 ∧ (∀ a i, spCct.pre a i = (i = [] ∧ famPre d_llpt spCct_A spCct_pre a)) ∧ ∀ a i r b, spCct.post a i r b = (famPost d_llpt spCct_post a r b) := ⟨rfl, rfl, rfl, rfl, fun _ _ => rfl, fun _ _ _ _ => rfl⟩
def tb96 : Nat → Option VE.Spec := tabOf [(139, (spGrow 2 40 1000000))]
theorem tb96_139 : tb96 139 = some ((spGrow 2 40 1000000)) := rfl
theorem tb96_ok : TabOK Tryz.prog rt0 tb96 := (tabOf_cons (by kernel_rfl) sat_slices_Grow_impl_Point_impl_Point_0 tabOf_nil)
set_option maxHeartbeats 4000000 in
theorem sat_slices_Concat_impl_Point_impl_Point_0 : Sat Tryz.prog rt0 96 (wkOut spCct) := by
  refine fn_sat hm ttok (tab := tb96) tb96_ok Tryz.func96 (c := Tryz.f96.body.getD .skip) (by kernel_rfl) (ts := [.tmp 2]) (by kernel_rfl) Tryz.ntmps96 (sq := fun _ => true) (by kernel_rfl) ?_
  intro args ins pk hpre0 hpk
  obtain ⟨rfl, hpre0⟩ := hpre0
  obtain ⟨L, rfl, hpre, hdec⟩ := famPre_ex hpre0
  clear hpre0 hdec
  try simp only [spCct_pre] at hpre
  replace hpk : pk + 0 ≤ pickLimit := hpk
  refine ⟨Nat.le_of_ble_eq_true rfl, ?_⟩
  simp (config := { maxSteps := 1000000 }) only [go_sem, ↓ifP_true, ↓ifP_false, ↓ifP_not, Nat.reduceLT, Nat.reduceAdd, Nat.reduceBEq, Nat.reduceSub, Nat.reduceLeDiff, Nat.reduceEqDiff, Nat.reduceMul, Int.reduceToNat, Int.reduceEq, Int.reduceLT, Int.reduceLE, Int.reduceAdd, Int.reduceSub, Int.reduceMul, reduceCtorEq, cond_true, cond_false, forall_eq', forall_eq, forall_const, implies_true, if_true, if_false, exists_eq_left', exists_eq', exists_eq, ne_eq, Tryz.f96, tb96_139, spCct_q, spCct_A, spCct_pre, spCct_post, spGrow_q]
  repeat' (first | apply And.intro | (intro _) | omega | assumption | with_reducible rfl)
  any_goals
    refine loopS (α := Int × Int) false [1, 3, 4, 5, 7, 11, 12, 13, 14, 15, 16, 17, 18, 19, 20, 21, 22, 28] (fun σ => []) (fun σ x => [(3, I x.1), (11, I x.2)]) (fun σ x => []) (fun (n, i) => 0) (fun σ => (gI (σ.get 3), gI (σ.get 11))) (fun σ τ => []) (fun (n, i) => (0 ≤ i ∧ i ≤ L.length) ∧ n = total (L.take i.toNat)) (fun (n, i) => (L.length - i).toNat) ⟨by (simp (config := { maxSteps := 1000000 }) only [go_sem, ↓ifP_true, ↓ifP_false, ↓ifP_not, Nat.reduceLT, Nat.reduceAdd, Nat.reduceBEq, Nat.reduceSub, Nat.reduceLeDiff, Nat.reduceEqDiff, Nat.reduceMul, Int.reduceToNat, Int.reduceEq, Int.reduceLT, Int.reduceLE, Int.reduceAdd, Int.reduceSub, Int.reduceMul, reduceCtorEq, cond_true, cond_false, forall_eq', forall_eq, forall_const, implies_true, if_true, if_false, exists_eq_left', exists_eq', exists_eq, ne_eq, Tryz.f96, tb96_139, spCct_q, spCct_A, spCct_pre, spCct_post, spGrow_q]; (repeat' (first | apply And.intro | (intro _) | omega | assumption | with_reducible rfl)); all_goals (first | rfl)), ?_⟩
    rintro ⟨n, i⟩ hinv
    try dsimp only at hinv
    rcases elemAt L i (by omega) with ⟨hlt, r, hk⟩ | hlt
    all_goals (first | ((have hlt2 := of_eq_true hlt); (have hT := total_mem hk); all_goals simp (config := { maxSteps := 1000000 }) only [go_sem, ↓ifP_true, ↓ifP_false, ↓ifP_not, Nat.reduceLT, Nat.reduceAdd, Nat.reduceBEq, Nat.reduceSub, Nat.reduceLeDiff, Nat.reduceEqDiff, Nat.reduceMul, Int.reduceToNat, Int.reduceEq, Int.reduceLT, Int.reduceLE, Int.reduceAdd, Int.reduceSub, Int.reduceMul, reduceCtorEq, cond_true, cond_false, forall_eq', forall_eq, forall_const, implies_true, if_true, if_false, exists_eq_left', exists_eq', exists_eq, ne_eq, Tryz.f96, tb96_139, spCct_q, spCct_A, spCct_pre, spCct_post, spGrow_q, hlt, hk]) | (have hlt2 := of_eq_false hlt; simp (config := { maxSteps := 1000000 }) only [go_sem, ↓ifP_true, ↓ifP_false, ↓ifP_not, Nat.reduceLT, Nat.reduceAdd, Nat.reduceBEq, Nat.reduceSub, Nat.reduceLeDiff, Nat.reduceEqDiff, Nat.reduceMul, Int.reduceToNat, Int.reduceEq, Int.reduceLT, Int.reduceLE, Int.reduceAdd, Int.reduceSub, Int.reduceMul, reduceCtorEq, cond_true, cond_false, forall_eq', forall_eq, forall_const, implies_true, if_true, if_false, exists_eq_left', exists_eq', exists_eq, ne_eq, Tryz.f96, tb96_139, spCct_q, spCct_A, spCct_pre, spCct_post, spGrow_q, hlt]))
    all_goals
      repeat' (first | apply And.intro | (intro _) | omega | assumption | with_reducible rfl)
  
  any_goals
    refine loopS (α := (List Pt) × Int) false [0, 1, 3, 4, 5, 6, 7, 8, 9, 10, 11, 12, 13, 14, 15, 16, 17, 18, 19, 20, 21, 22, 23, 24, 27, 28, 29, 30, 31, 32, 33, 34] (fun σ => [gId (σ.get 6)]) (fun σ x => [(6, .c (.own (gId (σ.get 6)) (x.1).length false)), (27, I x.2)]) (fun σ x => [(gId (σ.get 6), some ⟨(x.1).map ptC, 2, 40, true, false⟩)]) (fun (o, j) => 0) (fun σ => (gL ptCd σ (σ.get 6), gI (σ.get 27))) (fun σ τ => [(gId (σ.get 6), gId (τ.get 6))]) (fun (o, j) => (0 ≤ j ∧ j ≤ L.length) ∧ o = (L.take j.toNat).flatten) (fun (o, j) => (L.length - j).toNat) ⟨by (simp (config := { maxSteps := 1000000 }) only [go_sem, ↓ifP_true, ↓ifP_false, ↓ifP_not, Nat.reduceLT, Nat.reduceAdd, Nat.reduceBEq, Nat.reduceSub, Nat.reduceLeDiff, Nat.reduceEqDiff, Nat.reduceMul, Int.reduceToNat, Int.reduceEq, Int.reduceLT, Int.reduceLE, Int.reduceAdd, Int.reduceSub, Int.reduceMul, reduceCtorEq, cond_true, cond_false, forall_eq', forall_eq, forall_const, implies_true, if_true, if_false, exists_eq_left', exists_eq', exists_eq, ne_eq, Tryz.f96, tb96_139, spCct_q, spCct_A, spCct_pre, spCct_post, spGrow_q]; (repeat' (first | apply And.intro | (intro _) | omega | assumption | with_reducible rfl)); all_goals (first | rfl)), ?_⟩
    rintro ⟨o, j⟩ hinv
    try dsimp only at hinv
    rcases elemAt L j (by omega) with ⟨hlt, r, hk⟩ | hlt
    all_goals (first | ((have hlt2 := of_eq_true hlt); (have hT := total_mem hk); all_goals simp (config := { maxSteps := 1000000 }) only [go_sem, ↓ifP_true, ↓ifP_false, ↓ifP_not, Nat.reduceLT, Nat.reduceAdd, Nat.reduceBEq, Nat.reduceSub, Nat.reduceLeDiff, Nat.reduceEqDiff, Nat.reduceMul, Int.reduceToNat, Int.reduceEq, Int.reduceLT, Int.reduceLE, Int.reduceAdd, Int.reduceSub, Int.reduceMul, reduceCtorEq, cond_true, cond_false, forall_eq', forall_eq, forall_const, implies_true, if_true, if_false, exists_eq_left', exists_eq', exists_eq, ne_eq, Tryz.f96, tb96_139, spCct_q, spCct_A, spCct_pre, spCct_post, spGrow_q, hlt, hk]) | (have hlt2 := of_eq_false hlt; simp (config := { maxSteps := 1000000 }) only [go_sem, ↓ifP_true, ↓ifP_false, ↓ifP_not, Nat.reduceLT, Nat.reduceAdd, Nat.reduceBEq, Nat.reduceSub, Nat.reduceLeDiff, Nat.reduceEqDiff, Nat.reduceMul, Int.reduceToNat, Int.reduceEq, Int.reduceLT, Int.reduceLE, Int.reduceAdd, Int.reduceSub, Int.reduceMul, reduceCtorEq, cond_true, cond_false, forall_eq', forall_eq, forall_const, implies_true, if_true, if_false, exists_eq_left', exists_eq', exists_eq, ne_eq, Tryz.f96, tb96_139, spCct_q, spCct_A, spCct_pre, spCct_post, spGrow_q, hlt]))
    all_goals
    repeat' (first | apply And.intro | (intro _) | omega | assumption | with_reducible rfl)
  all_goals (first | ((rw [takeN hk hinv.1.1, total_snoc]; omega); done) | ((have h9 := total_take L i.toNat; exact ⟨n, by omega, by omega, rfl⟩); done) | ((obtain ⟨⟨h0, h1⟩, rfl⟩ := hinv; rw [flat_len]; omega); done) | ((obtain ⟨⟨h0, h1⟩, rfl⟩ := hinv; rw [takeN hk h0, flat_snoc]); done) | ((obtain ⟨⟨h0, h1⟩, rfl⟩ := hinv; rw [takeA (by omega)]); done) | (skip; done))
theorem sat_slices_Concat_impl_Point_impl_Point : Sat Tryz.prog rt0 96 (wkIn spCct) := sat_in (sat_out sat_slices_Concat_impl_Point_impl_Point_0)
end Go.Proofs.YtcejoknapbhloaaGreat
end
section
set_option maxRecDepth 100000
set_option linter.unusedSimpArgs false
set_option linter.unusedVariables false
namespace Go.Proofs.YtcejoknapbhloaaGreat
open Go Go.VE
def pxB (b : Bx) : Bx := ⟨b.l / 16, b.t / 16, b.r / 16 + 1, b.b / 16 + 1⟩
def emB (b : Bx) : Bool := decide (b.r ≤ b.l ∨ b.b ≤ b.t)
def jnB (a b : Bx) : Bx := if emB a = true then (if emB b = true then ⟨0, 0, 0, 0⟩ else b) else if emB b = true then a else ⟨min a.l b.l, min a.t b.t, max a.r b.r, max a.b b.b⟩
structure prpB (b : Bx) : Prop where
  d : b = ⟨0, 0, 0, 0⟩ ∨ b.l < b.r ∧ b.t < b.b
  n : (-1000000 ≤ b.l ∧ b.l ≤ 1000000) ∧ (-1000000 ≤ b.t ∧ b.t ≤ 1000000) ∧ (-1000000 ≤ b.r ∧ b.r ≤ 1000000) ∧ -1000000 ≤ b.b ∧ b.b ≤ 1000000
def ovB (c b : Bx) : Bool := decide (max b.l c.l < min b.r c.r ∧ max b.t c.t < min b.b c.b)
def tsN (b : Bx) (w h : Int) (k : Nat) : List Int := ((List.range k).filter fun j : Nat => ovB (tbox w h (j : Int)) b).map fun j : Nat => (j : Int)
theorem tsN_yes {b : Bx} {w h i : Int} (h0 : 0 ≤ i) (ho : ovB (tbox w h i) b = true) : tsN b w h i.toNat ++ [i] = tsN b w h (i + 1).toNat := by
  have e : (i.toNat : Int) = i := Int.toNat_of_nonneg h0
  rw [show (i + 1).toNat = i.toNat + 1 by omega, tsN, tsN, List.range_succ, List.filter_append, List.map_append]
  simp only [List.filter_cons, e, ho, if_true, List.filter_nil, List.map_cons, List.map_nil]
theorem tsN_no {b : Bx} {w h i : Int} (h0 : 0 ≤ i) (ho : ovB (tbox w h i) b = false) : tsN b w h i.toNat = tsN b w h (i + 1).toNat := by
  have e : (i.toNat : Int) = i := Int.toNat_of_nonneg h0
  rw [show (i + 1).toNat = i.toNat + 1 by omega, tsN, tsN, List.range_succ, List.filter_append, List.map_append]
  simp [e, ho]
theorem tsN_len (b : Bx) (w h : Int) (k : Nat) : (tsN b w h k).length ≤ k := by
  rw [tsN, List.length_map]
  exact Nat.le_trans (List.length_filter_le _ _) (by simp)
theorem tsN_mem {b : Bx} {w h t : Int} {k : Nat} (h0 : 0 ≤ t) (hk : t < k) (ho : ovB (tbox w h t) b = true) : t ∈ tsN b w h k := by
  refine List.mem_map.2 ⟨t.toNat, List.mem_filter.2 ⟨List.mem_range.2 (by omega), ?_⟩, Int.toNat_of_nonneg h0⟩
  rw [Int.toNat_of_nonneg h0]; exact ho
theorem bnd1_in (b : Bx) (p : Pt) : ((bnd1 b p).l ≤ b.l ∧ b.r ≤ (bnd1 b p).r ∧ (bnd1 b p).t ≤ b.t ∧ b.b ≤ (bnd1 b p).b) ∧ ((bnd1 b p).l ≤ p.x ∧ p.x ≤ (bnd1 b p).r) ∧ (bnd1 b p).t ≤ p.y ∧ p.y ≤ (bnd1 b p).b := by
  simp only [bnd1]; omega
theorem bndF_in : ∀ (l : List Pt) (b : Bx), ((l.foldl bnd1 b).l ≤ b.l ∧ b.r ≤ (l.foldl bnd1 b).r ∧ (l.foldl bnd1 b).t ≤ b.t ∧ b.b ≤ (l.foldl bnd1 b).b) ∧ ∀ p ∈ l, ((l.foldl bnd1 b).l ≤ p.x ∧ p.x ≤ (l.foldl bnd1 b).r) ∧ (l.foldl bnd1 b).t ≤ p.y ∧ p.y ≤ (l.foldl bnd1 b).b
  | [], b => ⟨⟨Int.le_refl _, Int.le_refl _, Int.le_refl _, Int.le_refl _⟩, fun p hp => by cases hp⟩
  | q :: l, b => by
    obtain ⟨h1, h2⟩ := bndF_in l (bnd1 b q)
    obtain ⟨g1, g2⟩ := bnd1_in b q
    rw [List.foldl_cons]
    generalize hB : l.foldl bnd1 (bnd1 b q) = B at *
    generalize bnd1 b q = c at *
    refine ⟨by omega, fun p hp => ?_⟩
    rcases List.mem_cons.1 hp with rfl | hp
    · omega
    · exact h2 p hp
theorem bndF_bd : ∀ (l : List Pt) (b : Bx), (∀ p ∈ l, (-1000 ≤ p.x ∧ p.x ≤ 1000) ∧ -1000 ≤ p.y ∧ p.y ≤ 1000) → ((-1000 ≤ b.l ∧ b.r ≤ 1000) ∧ -1000 ≤ b.t ∧ b.b ≤ 1000) → (-1000 ≤ (l.foldl bnd1 b).l ∧ (l.foldl bnd1 b).r ≤ 1000) ∧ -1000 ≤ (l.foldl bnd1 b).t ∧ (l.foldl bnd1 b).b ≤ 1000
  | [], b, _, h => h
  | q :: l, b, hl, h => by
    have hq := hl q (by simp)
    refine bndF_bd l (bnd1 b q) (fun p hp => hl p (by simp [hp])) ?_
    simp only [bnd1]; omega
theorem bnd_in {l : List Pt} : ∀ p ∈ l, ((bnd l).l ≤ p.x ∧ p.x ≤ (bnd l).r) ∧ (bnd l).t ≤ p.y ∧ p.y ≤ (bnd l).b := by
  intro p hp
  cases l with
  | nil => cases hp
  | cons a l =>
    rw [bnd_of (k := a) rfl]
    exact (bndF_in (a :: l) _).2 p hp
theorem bnd_ok {l : List Pt} (hn : l ≠ []) (h : ∀ p ∈ l, (-1000 ≤ p.x ∧ p.x ≤ 1000) ∧ -1000 ≤ p.y ∧ p.y ≤ 1000) : vBx (bnd l) = true := by
  cases l with
  | nil => exact absurd rfl hn
  | cons a l =>
    have h0 := h a (by simp)
    have h1 := bnd_in a (show a ∈ a :: l by simp)
    have h2 := bndF_bd (a :: l) ⟨a.x, a.y, a.x, a.y⟩ h (by dsimp only; omega)
    rw [← bnd_of (k := a) rfl] at h2
    simp only [vBx, decide_eq_true_eq]; omega
theorem flat_units {L : List (List Pt)} (h : vRings L = true) : ∀ p ∈ L.flatten, (-1000 ≤ p.x ∧ p.x ≤ 1000) ∧ -1000 ≤ p.y ∧ p.y ≤ 1000 := by
  intro p hp
  obtain ⟨r, hr, hm⟩ := List.mem_flatten.1 hp
  simp only [vRings, Bool.and_eq_true, List.all_eq_true] at h
  have h1 := h.1.1 r hr
  simp only [vRing, vPts, Bool.and_eq_true, List.all_eq_true] at h1
  have h2 := h1.2.2 p hm
  simpa [vPt, isU] using h2
theorem prp_em {a : Bx} (h : prpB a) : emB a = decide (a.l = a.r ∨ a.t = a.b) := by
  rcases h.1 with rfl | ⟨h1, h2⟩
  · rfl
  · simp only [emB, decide_eq_decide]; omega
theorem tidy_em (b : Bx) : (if b.l ≥ b.r ∨ b.t ≥ b.b then (⟨0, 0, 0, 0⟩ : Bx) else b) = if emB b = true then ⟨0, 0, 0, 0⟩ else b := by
  by_cases h : b.r ≤ b.l ∨ b.b ≤ b.t
  · rw [if_pos (by omega), if_pos (by rw [emB, decide_eq_true h])]
  · rw [if_neg (by omega), if_neg (by rw [emB, decide_eq_false h]; decide)]
theorem jn_1 {a b : Bx} (ha : prpB a) (hb : prpB b) (h : a.l = a.r ∨ a.t = a.b) : (if b.l ≥ b.r ∨ b.t ≥ b.b then (⟨0, 0, 0, 0⟩ : Bx) else b) = jnB a b := by
  have e : emB a = true := by rw [prp_em ha, decide_eq_true h]
  rw [tidy_em, jnB, e, if_pos rfl]
theorem jn_2 {a b : Bx} (ha : prpB a) (hb : prpB b) (h : ¬ (a.l = a.r ∨ a.t = a.b)) (h2 : b.l = b.r ∨ b.t = b.b) : (if a.l ≥ a.r ∨ a.t ≥ a.b then (⟨0, 0, 0, 0⟩ : Bx) else a) = jnB a b := by
  have e : ¬ emB a = true := by rw [prp_em ha, decide_eq_false h]; decide
  rw [tidy_em, jnB, if_neg e, if_neg e, if_pos (by rw [prp_em hb, decide_eq_true h2])]
theorem jn_3 {a b : Bx} (ha : prpB a) (hb : prpB b) (h : ¬ (a.l = a.r ∨ a.t = a.b)) (h2 : ¬ (b.l = b.r ∨ b.t = b.b)) : [C.v (.int .i64 (min a.l b.l)), C.v (.int .i64 (min a.t b.t)), C.v (.int .i64 (max a.r b.r)), C.v (.int .i64 (max a.b b.b))] = bxC (jnB a b) := by
  rw [jnB, if_neg (by rw [prp_em ha, decide_eq_false h]; decide), if_neg (by rw [prp_em hb, decide_eq_false h2]; decide)]; rfl
def flB (p : List Verb) : Bx := if (ringsOf p).flatten = [] then ⟨0, 0, 0, 0⟩ else pxB (bnd (ringsOf p).flatten)
theorem flB_prp {p : List Verb} (h : vRings (ringsOf p) = true) : prpB (flB p) := by
  unfold flB
  split
  · exact ⟨.inl rfl, by simp⟩
  · have h1 := bnd_ok ‹_› (flat_units h)
    simp only [vBx, decide_eq_true_eq] at h1
    refine ⟨.inr ?_, ?_⟩ <;> simp only [pxB] <;> omega
def spEmB_A : Bx → List AV
  | b => [.agg (bxC b)]
def spEmB_pre : Bx → Prop
  | b => True
def spEmB_post : Bx → AV → List Box → Prop
  | b, r, bs => r = B (emB b) ∧ bs = []
def spEmB : VE.Spec := famSpec spEmB_A d_bx spEmB_pre spEmB_post 0 true
theorem spEmB_q : spEmB.flat = true ∧ spEmB.mt = [] ∧ spEmB.shut = false ∧ spEmB.cost = 0 ∧ (∀ a i, spEmB.pre a i = (i = [] ∧ famPre d_bx spEmB_A spEmB_pre a)) ∧ ∀ a i r b, spEmB.post a i r b = (famPost d_bx spEmB_post a r b) := ⟨rfl, rfl, rfl, rfl, fun _ _ => rfl, fun _ _ _ _ => rfl⟩
def tb94 : Nat → Option VE.Spec := tabOf []
theorem tb94_ok : TabOK Tryz.prog rt0 tb94 := tabOf_nil
set_option maxHeartbeats 4000000 in
theorem sat_impl_Box_empty_0 : Sat Tryz.prog rt0 94 (wkOut spEmB) := by
  refine fn_sat hm ttok (tab := tb94) tb94_ok Tryz.func94 (c := Tryz.f94.body.getD .skip) (by kernel_rfl) (ts := [.tmp 2]) (by kernel_rfl) Tryz.ntmps94 (sq := fun _ => true) (by kernel_rfl) ?_
  intro args ins pk hpre0 hpk
  obtain ⟨rfl, hpre0⟩ := hpre0
  obtain ⟨b, rfl, hpre, hdec⟩ := famPre_ex hpre0
  clear hpre0 hdec
  try simp only [spEmB_pre] at hpre
  replace hpk : pk + 0 ≤ pickLimit := hpk
  refine ⟨Nat.le_of_ble_eq_true rfl, ?_⟩
  simp (config := { maxSteps := 1000000 }) only [go_sem, ↓ifP_true, ↓ifP_false, ↓ifP_not, Nat.reduceLT, Nat.reduceAdd, Nat.reduceBEq, Nat.reduceSub, Nat.reduceLeDiff, Nat.reduceEqDiff, Nat.reduceMul, Int.reduceToNat, Int.reduceEq, Int.reduceLT, Int.reduceLE, Int.reduceAdd, Int.reduceSub, Int.reduceMul, reduceCtorEq, cond_true, cond_false, forall_eq', forall_eq, forall_const, implies_true, if_true, if_false, exists_eq_left', exists_eq', exists_eq, ne_eq, Tryz.f94, spEmB_q, spEmB_A, spEmB_pre, spEmB_post]
  repeat' (first | apply And.intro | (intro _) | omega | assumption | with_reducible rfl)
  all_goals (first | ((simp only [decide_eq_decide, true_eq_decide_iff, false_eq_decide_iff, Bool.not_eq_eq_eq_not, Bool.not_true, Bool.not_false]; omega); done) | ((simp [emB]; omega); done) | (grind [emB]; done))
theorem sat_impl_Box_empty : Sat Tryz.prog rt0 94 (wkIn spEmB) := sat_in (sat_out sat_impl_Box_empty_0)
def spPxB_A : Bx → List AV
  | b => [.agg (bxC b)]
def spPxB_pre : Bx → Prop
  | b => vBx b = true
def spPxB_post : Bx → AV → List Box → Prop
  | b, r, bs => r = .agg (bxC (pxB b)) ∧ bs = []
def spPxB : VE.Spec := famSpec spPxB_A d_bx spPxB_pre spPxB_post 0 true
theorem spPxB_q : spPxB.flat = true ∧ spPxB.mt = [] ∧ spPxB.shut = false ∧ spPxB.cost = 0 ∧ (∀ a i, spPxB.pre a i = (i = [] ∧ famPre d_bx spPxB_A spPxB_pre a)) ∧ ∀ a i r b, spPxB.post a i r b = (famPost d_bx spPxB_post a r b) := ⟨rfl, rfl, rfl, rfl, fun _ _ => rfl, fun _ _ _ _ => rfl⟩
def tb140 : Nat → Option VE.Spec := tabOf [(155, wkIn spIsU)]
theorem tb140_155 : tb140 155 = some (wkIn spIsU) := rfl
theorem tb140_ok : TabOK Tryz.prog rt0 tb140 := (tabOf_cons (by kernel_rfl) sat_impl_isUnit tabOf_nil)
set_option maxHeartbeats 4000000 in
theorem sat_impl_Box_valid_0 : Sat Tryz.prog rt0 140 (wkOut spVBx) := by
  refine fn_sat hm ttok (tab := tb140) tb140_ok Tryz.func140 (c := Tryz.f140.body.getD .skip) (by kernel_rfl) (ts := [.tmp 2]) (by kernel_rfl) Tryz.ntmps140 (sq := fun _ => true) (by kernel_rfl) ?_
  intro args ins pk hpre0 hpk
  obtain ⟨rfl, hpre0⟩ := hpre0
  obtain ⟨b, rfl, hpre, hdec⟩ := famPre_ex hpre0
  clear hpre0 hdec
  try simp only [spVBx_pre] at hpre
  replace hpk : pk + 0 ≤ pickLimit := hpk
  refine ⟨Nat.le_of_ble_eq_true rfl, ?_⟩
  simp (config := { maxSteps := 1000000 }) only [go_sem, ↓ifP_true, ↓ifP_false, ↓ifP_not, Nat.reduceLT, Nat.reduceAdd, Nat.reduceBEq, Nat.reduceSub, Nat.reduceLeDiff, Nat.reduceEqDiff, Nat.reduceMul, Int.reduceToNat, Int.reduceEq, Int.reduceLT, Int.reduceLE, Int.reduceAdd, Int.reduceSub, Int.reduceMul, reduceCtorEq, cond_true, cond_false, forall_eq', forall_eq, forall_const, implies_true, if_true, if_false, exists_eq_left', exists_eq', exists_eq, ne_eq, Tryz.f140, tb140_155, spVBx_q, spVBx_A, spVBx_pre, spVBx_post, spIsU_q, spIsU_A, spIsU_pre, spIsU_post, vBx, isU]
  repeat' (first | apply And.intro | (intro _) | omega | assumption | with_reducible rfl)
  all_goals (first | ((simp only [decide_eq_decide, true_eq_decide_iff, false_eq_decide_iff, Bool.not_eq_eq_eq_not, Bool.not_true, Bool.not_false]; omega); done) | (grind; done))
theorem sat_impl_Box_valid : Sat Tryz.prog rt0 140 (wkIn spVBx) := sat_in (sat_out sat_impl_Box_valid_0)
def tb97 : Nat → Option VE.Spec := tabOf [(140, wkIn spVBx), (141, wkIn spFloor)]
theorem tb97_140 : tb97 140 = some (wkIn spVBx) := rfl
theorem tb97_141 : tb97 141 = some (wkIn spFloor) := rfl
theorem tb97_ok : TabOK Tryz.prog rt0 tb97 := (tabOf_cons (by kernel_rfl) sat_impl_Box_valid (tabOf_cons (by kernel_rfl) sat_impl_floor tabOf_nil))
set_option maxHeartbeats 4000000 in
theorem sat_impl_PixelBox_0 : Sat Tryz.prog rt0 97 (wkOut spPxB) := by
  refine fn_sat hm ttok (tab := tb97) tb97_ok Tryz.func97 (c := Tryz.f97.body.getD .skip) (by kernel_rfl) (ts := [.cell 2 90]) (by kernel_rfl) Tryz.ntmps97 (sq := fun id => !(id == 3)) (by kernel_rfl) ?_
  intro args ins pk hpre0 hpk
  obtain ⟨rfl, hpre0⟩ := hpre0
  obtain ⟨b, rfl, hpre, hdec⟩ := famPre_ex hpre0
  clear hpre0 hdec
  try simp only [spPxB_pre] at hpre
  replace hpk : pk + 0 ≤ pickLimit := hpk
  refine ⟨Nat.le_of_ble_eq_true rfl, ?_⟩
  have hb := hpre
  simp only [vBx, decide_eq_true_eq] at hb
  simp (config := { maxSteps := 1000000 }) only [go_sem, ↓ifP_true, ↓ifP_false, ↓ifP_not, Nat.reduceLT, Nat.reduceAdd, Nat.reduceBEq, Nat.reduceSub, Nat.reduceLeDiff, Nat.reduceEqDiff, Nat.reduceMul, Int.reduceToNat, Int.reduceEq, Int.reduceLT, Int.reduceLE, Int.reduceAdd, Int.reduceSub, Int.reduceMul, reduceCtorEq, cond_true, cond_false, forall_eq', forall_eq, forall_const, implies_true, if_true, if_false, exists_eq_left', exists_eq', exists_eq, ne_eq, Tryz.f97, tb97_140, tb97_141, spPxB_q, spPxB_A, spPxB_pre, spPxB_post, spVBx_q, spVBx_A, spVBx_pre, spVBx_post, spFloor_q, spFloor_A, spFloor_pre, spFloor_post]
  repeat' (first | apply And.intro | (intro _) | omega | assumption | with_reducible rfl)
  all_goals try (refine drawI (VE.Plan.first 0 (VE.Plan.first 1 (VE.Plan.first 3 (VE.Plan.first 4 (VE.Plan.first 6 (VE.Plan.first 7 (VE.Plan.first 10 (VE.Plan.first 11 (VE.Plan.alt 2 (VE.Plan.alt 5 (VE.Plan.alt 8 (VE.Plan.first 9 (VE.Plan.alt 12 (VE.Plan.first 13 (VE.Plan.first 14 (VE.Plan.alt 15 VE.Plan.nil VE.Plan.nil))) VE.Plan.nil)) VE.Plan.nil) VE.Plan.nil) VE.Plan.nil))))))))) (by decide +kernel) ?_; simp (config := { maxSteps := 1000000 }) only [go_sem, ↓ifP_true, ↓ifP_false, ↓ifP_not, Nat.reduceLT, Nat.reduceAdd, Nat.reduceBEq, Nat.reduceSub, Nat.reduceLeDiff, Nat.reduceEqDiff, Nat.reduceMul, Int.reduceToNat, Int.reduceEq, Int.reduceLT, Int.reduceLE, Int.reduceAdd, Int.reduceSub, Int.reduceMul, reduceCtorEq, cond_true, cond_false, forall_eq', forall_eq, forall_const, implies_true, if_true, if_false, exists_eq_left', exists_eq', exists_eq, ne_eq, planW, stepW, Tryz.f97, tb97_140, tb97_141, spPxB_q, spPxB_A, spPxB_pre, spPxB_post, spVBx_q, spVBx_A, spVBx_pre, spVBx_post, spFloor_q, spFloor_A, spFloor_pre, spFloor_post]; repeat' (first | apply And.intro | (intro _) | omega | assumption | with_reducible rfl))
  all_goals (first | (omega; done) | (rfl; done) | ((exfalso; simp_all; done); done) | (simp [pxB, *]; done))
theorem sat_impl_PixelBox : Sat Tryz.prog rt0 97 (wkIn spPxB) := sat_in (sat_out sat_impl_PixelBox_0)
def tb106 : Nat → Option VE.Spec := tabOf [(145, wkIn spFloor)]
theorem tb106_145 : tb106 145 = some (wkIn spFloor) := rfl
theorem tb106_ok : TabOK Tryz.prog rt0 tb106 := (tabOf_cons (by kernel_rfl) sat_spec_floorDiv tabOf_nil)
set_option maxHeartbeats 4000000 in
theorem sat_spec_pixelBox_0 : Sat Tryz.prog rt0 106 (wkOut spPxB) := by
  refine fn_sat hm ttok (tab := tb106) tb106_ok Tryz.func106 (c := Tryz.f106.body.getD .skip) (by kernel_rfl) (ts := [.cell 2 90]) (by kernel_rfl) Tryz.ntmps106 (sq := fun id => !(id == 1)) (by kernel_rfl) ?_
  intro args ins pk hpre0 hpk
  obtain ⟨rfl, hpre0⟩ := hpre0
  obtain ⟨b, rfl, hpre, hdec⟩ := famPre_ex hpre0
  clear hpre0 hdec
  try simp only [spPxB_pre] at hpre
  replace hpk : pk + 0 ≤ pickLimit := hpk
  refine ⟨Nat.le_of_ble_eq_true rfl, ?_⟩
  have hb := hpre
  simp only [vBx, decide_eq_true_eq] at hb
  simp (config := { maxSteps := 1000000 }) only [go_sem, ↓ifP_true, ↓ifP_false, ↓ifP_not, Nat.reduceLT, Nat.reduceAdd, Nat.reduceBEq, Nat.reduceSub, Nat.reduceLeDiff, Nat.reduceEqDiff, Nat.reduceMul, Int.reduceToNat, Int.reduceEq, Int.reduceLT, Int.reduceLE, Int.reduceAdd, Int.reduceSub, Int.reduceMul, reduceCtorEq, cond_true, cond_false, forall_eq', forall_eq, forall_const, implies_true, if_true, if_false, exists_eq_left', exists_eq', exists_eq, ne_eq, Tryz.f106, tb106_145, spPxB_q, spPxB_A, spPxB_pre, spPxB_post, spFloor_q, spFloor_A, spFloor_pre, spFloor_post]
  repeat' (first | apply And.intro | (intro _) | omega | assumption | with_reducible rfl)
  all_goals try (refine drawI (VE.Plan.first 0 (VE.Plan.first 1 (VE.Plan.first 3 (VE.Plan.first 4 (VE.Plan.first 6 (VE.Plan.first 7 (VE.Plan.first 10 (VE.Plan.first 11 (VE.Plan.alt 2 (VE.Plan.alt 5 (VE.Plan.alt 8 (VE.Plan.first 9 (VE.Plan.alt 12 (VE.Plan.first 13 (VE.Plan.first 14 (VE.Plan.alt 15 VE.Plan.nil VE.Plan.nil))) VE.Plan.nil)) VE.Plan.nil) VE.Plan.nil) VE.Plan.nil))))))))) (by decide +kernel) ?_; simp (config := { maxSteps := 1000000 }) only [go_sem, ↓ifP_true, ↓ifP_false, ↓ifP_not, Nat.reduceLT, Nat.reduceAdd, Nat.reduceBEq, Nat.reduceSub, Nat.reduceLeDiff, Nat.reduceEqDiff, Nat.reduceMul, Int.reduceToNat, Int.reduceEq, Int.reduceLT, Int.reduceLE, Int.reduceAdd, Int.reduceSub, Int.reduceMul, reduceCtorEq, cond_true, cond_false, forall_eq', forall_eq, forall_const, implies_true, if_true, if_false, exists_eq_left', exists_eq', exists_eq, ne_eq, planW, stepW, Tryz.f106, tb106_145, spPxB_q, spPxB_A, spPxB_pre, spPxB_post, spFloor_q, spFloor_A, spFloor_pre, spFloor_post]; repeat' (first | apply And.intro | (intro _) | omega | assumption | with_reducible rfl))
  all_goals (first | (omega; done) | (rfl; done) | (simp [pxB, *]; done))
theorem sat_spec_pixelBox : Sat Tryz.prog rt0 106 (wkIn spPxB) := sat_in (sat_out sat_spec_pixelBox_0)
def spJnB_A : Bx × Bx → List AV
  | (a, b) => [.agg (bxC a), .agg (bxC b)]
def spJnB_pre : Bx × Bx → Prop
  | (a, b) => prpB a ∧ prpB b
def spJnB_post : Bx × Bx → AV → List Box → Prop
  | (a, b), r, bs => r = .agg (bxC (jnB a b)) ∧ bs = []
def spJnB : VE.Spec := famSpec spJnB_A d_bx_bx spJnB_pre spJnB_post 0 true
theorem spJnB_q : spJnB.flat = true ∧ spJnB.mt = [] ∧ spJnB.shut = false ∧ spJnB.cost = 0 ∧ (∀ a i, spJnB.pre a i = (i = [] ∧ famPre d_bx_bx spJnB_A spJnB_pre a)) ∧ ∀ a i r b, spJnB.post a i r b = (famPost d_bx_bx spJnB_post a r b) := ⟨rfl, rfl, rfl, rfl, fun _ _ => rfl, fun _ _ _ _ => rfl⟩
def tb62 : Nat → Option VE.Spec := tabOf [(94, wkIn spEmB)]
theorem tb62_94 : tb62 94 = some (wkIn spEmB) := rfl
theorem tb62_ok : TabOK Tryz.prog rt0 tb62 := (tabOf_cons (by kernel_rfl) sat_impl_Box_empty tabOf_nil)
set_option maxHeartbeats 4000000 in
theorem sat_impl_Box_join_0 : Sat Tryz.prog rt0 62 (wkOut spJnB) := by
  refine fn_sat hm ttok (tab := tb62) tb62_ok Tryz.func62 (c := Tryz.f62.body.getD .skip) (by kernel_rfl) (ts := [.cell 4 90]) (by kernel_rfl) Tryz.ntmps62 (sq := fun _ => true) (by kernel_rfl) ?_
  intro args ins pk hpre0 hpk
  obtain ⟨rfl, hpre0⟩ := hpre0
  obtain ⟨⟨a, b⟩, rfl, hpre, hdec⟩ := famPre_ex hpre0
  clear hpre0 hdec
  try simp only [spJnB_pre] at hpre
  replace hpk : pk + 0 ≤ pickLimit := hpk
  refine ⟨Nat.le_of_ble_eq_true rfl, ?_⟩
  simp (config := { maxSteps := 1000000 }) only [go_sem, ↓ifP_true, ↓ifP_false, ↓ifP_not, Nat.reduceLT, Nat.reduceAdd, Nat.reduceBEq, Nat.reduceSub, Nat.reduceLeDiff, Nat.reduceEqDiff, Nat.reduceMul, Int.reduceToNat, Int.reduceEq, Int.reduceLT, Int.reduceLE, Int.reduceAdd, Int.reduceSub, Int.reduceMul, reduceCtorEq, cond_true, cond_false, forall_eq', forall_eq, forall_const, implies_true, if_true, if_false, exists_eq_left', exists_eq', exists_eq, ne_eq, Tryz.f62, tb62_94, spJnB_q, spJnB_A, spJnB_pre, spJnB_post, spEmB_q, spEmB_A, spEmB_pre, spEmB_post]
  repeat' (first | apply And.intro | (intro _) | omega | assumption | with_reducible rfl)
  all_goals (first | ((simp [jnB, *]; done); done) | ((simp [jnB, *]; rfl); done) | (simp_all [jnB]; done))
theorem sat_impl_Box_join : Sat Tryz.prog rt0 62 (wkIn spJnB) := sat_in (sat_out sat_impl_Box_join_0)
def tb68 : Nat → Option VE.Spec := tabOf [(103, wkIn spEmp), (104, wkIn spTidy)]
theorem tb68_103 : tb68 103 = some (wkIn spEmp) := rfl
theorem tb68_104 : tb68 104 = some (wkIn spTidy) := rfl
theorem tb68_ok : TabOK Tryz.prog rt0 tb68 := (tabOf_cons (by kernel_rfl) sat_spec_isEmpty (tabOf_cons (by kernel_rfl) sat_spec_tidy tabOf_nil))
set_option maxHeartbeats 4000000 in
theorem sat_spec_join_0 : Sat Tryz.prog rt0 68 (wkOut spJnB) := by
  refine fn_sat hm ttok (tab := tb68) tb68_ok Tryz.func68 (c := Tryz.f68.body.getD .skip) (by kernel_rfl) (ts := [.cell 4 90]) (by kernel_rfl) Tryz.ntmps68 (sq := fun _ => true) (by kernel_rfl) ?_
  intro args ins pk hpre0 hpk
  obtain ⟨rfl, hpre0⟩ := hpre0
  obtain ⟨⟨a, b⟩, rfl, hpre, hdec⟩ := famPre_ex hpre0
  clear hpre0 hdec
  try simp only [spJnB_pre] at hpre
  replace hpk : pk + 0 ≤ pickLimit := hpk
  refine ⟨Nat.le_of_ble_eq_true rfl, ?_⟩
  simp (config := { maxSteps := 1000000 }) only [go_sem, ↓ifP_true, ↓ifP_false, ↓ifP_not, Nat.reduceLT, Nat.reduceAdd, Nat.reduceBEq, Nat.reduceSub, Nat.reduceLeDiff, Nat.reduceEqDiff, Nat.reduceMul, Int.reduceToNat, Int.reduceEq, Int.reduceLT, Int.reduceLE, Int.reduceAdd, Int.reduceSub, Int.reduceMul, reduceCtorEq, cond_true, cond_false, forall_eq', forall_eq, forall_const, implies_true, if_true, if_false, exists_eq_left', exists_eq', exists_eq, ne_eq, Tryz.f68, tb68_103, tb68_104, spJnB_q, spJnB_A, spJnB_pre, spJnB_post, spEmp_q, spEmp_A, spEmp_pre, spEmp_post, spTidy_q, spTidy_A, spTidy_pre, spTidy_post]
  repeat' (first | apply And.intro | (intro _) | omega | assumption | with_reducible rfl)
  all_goals (first | (exact jn_1 hpre.1 hpre.2 ‹_›; done) | (exact jn_2 hpre.1 hpre.2 ‹_› ‹_›; done) | (exact jn_3 hpre.1 hpre.2 ‹_› ‹_›; done))
theorem sat_spec_join : Sat Tryz.prog rt0 68 (wkIn spJnB) := sat_in (sat_out sat_spec_join_0)
end Go.Proofs.YtcejoknapbhloaaGreat
end
section
set_option maxRecDepth 100000
set_option linter.unusedSimpArgs false
set_option linter.unusedVariables false
namespace Go.Proofs.YtcejoknapbhloaaGreat
open Go Go.VE
theorem isT_lt {w h i : Int} (hz : szd w h = true) (h0 : 0 ≤ i) (h1 : i < tcnt w h) : isT w h i = true := by
  rw [tcnt_of hz] at h1
  rw [isT, hz, decide_eq_true ⟨h0, h1⟩]; rfl
theorem tib {w h i : Int} (hz : szd w h = true) (h0 : 0 ≤ i) (h1 : i < tcnt w h) : (if isT w h i = true then tbox w h i else (⟨0, 0, 0, 0⟩ : Bx)) = tbox w h i := if_pos (isT_lt hz h0 h1)
theorem cut_em (c b : Bx) : (!emB (if emB ⟨max c.l b.l, max c.t b.t, min c.r b.r, min c.b b.b⟩ = true then ⟨0, 0, 0, 0⟩ else ⟨max c.l b.l, max c.t b.t, min c.r b.r, min c.b b.b⟩)) = ovB c b := by
  by_cases h : emB ⟨max c.l b.l, max c.t b.t, min c.r b.r, min c.b b.b⟩ = true
  · rw [if_pos h]
    have e : emB ⟨0, 0, 0, 0⟩ = true := rfl
    rw [e]
    simp only [emB, decide_eq_true_eq] at h
    rw [ovB, decide_eq_false (by omega)]; rfl
  · rw [if_neg h]
    have h2 := h
    simp only [emB, decide_eq_true_eq] at h2
    rw [ovB, decide_eq_true (by omega)]
    simpa using h
def spCut_A : Bx × Bx → List AV
  | (c, b) => [.agg (bxC c), .agg (bxC b)]
def spCut_pre : Bx × Bx → Prop
  | (c, b) => True
def spCut_post : Bx × Bx → AV → List Box → Prop
  | (c, b), r, bs => r = .agg (bxC (if emB ⟨max c.l b.l, max c.t b.t, min c.r b.r, min c.b b.b⟩ = true then ⟨0, 0, 0, 0⟩ else ⟨max c.l b.l, max c.t b.t, min c.r b.r, min c.b b.b⟩)) ∧ bs = []
def spCut : VE.Spec := famSpec spCut_A d_bx_bx spCut_pre spCut_post 0 true
theorem spCut_q : spCut.flat = true ∧ spCut.mt = [] ∧ spCut.shut = false ∧ spCut.cost = 0 ∧ (∀ a i, spCut.pre a i = (i = [] ∧ famPre d_bx_bx spCut_A spCut_pre a)) ∧ ∀ a i r b, spCut.post a i r b = (famPost d_bx_bx spCut_post a r b) := ⟨rfl, rfl, rfl, rfl, fun _ _ => rfl, fun _ _ _ _ => rfl⟩
def tb93 : Nat → Option VE.Spec := tabOf [(94, wkIn spEmB)]
theorem tb93_94 : tb93 94 = some (wkIn spEmB) := rfl
theorem tb93_ok : TabOK Tryz.prog rt0 tb93 := (tabOf_cons (by kernel_rfl) sat_impl_Box_empty tabOf_nil)
set_option maxHeartbeats 4000000 in
theorem sat_impl_Box_cut_0 : Sat Tryz.prog rt0 93 (wkOut spCut) := by
  refine fn_sat hm ttok (tab := tb93) tb93_ok Tryz.func93 (c := Tryz.f93.body.getD .skip) (by kernel_rfl) (ts := [.cell 4 90]) (by kernel_rfl) Tryz.ntmps93 (sq := fun _ => true) (by kernel_rfl) ?_
  intro args ins pk hpre0 hpk
  obtain ⟨rfl, hpre0⟩ := hpre0
  obtain ⟨⟨c, b⟩, rfl, hpre, hdec⟩ := famPre_ex hpre0
  clear hpre0 hdec
  try simp only [spCut_pre] at hpre
  replace hpk : pk + 0 ≤ pickLimit := hpk
  refine ⟨Nat.le_of_ble_eq_true rfl, ?_⟩
  simp (config := { maxSteps := 1000000 }) only [go_sem, ↓ifP_true, ↓ifP_false, ↓ifP_not, Nat.reduceLT, Nat.reduceAdd, Nat.reduceBEq, Nat.reduceSub, Nat.reduceLeDiff, Nat.reduceEqDiff, Nat.reduceMul, Int.reduceToNat, Int.reduceEq, Int.reduceLT, Int.reduceLE, Int.reduceAdd, Int.reduceSub, Int.reduceMul, reduceCtorEq, cond_true, cond_false, forall_eq', forall_eq, forall_const, implies_true, if_true, if_false, exists_eq_left', exists_eq', exists_eq, ne_eq, Tryz.f93, tb93_94, spCut_q, spCut_A, spCut_pre, spCut_post, spEmB_q, spEmB_A, spEmB_pre, spEmB_post]
  repeat' (first | apply And.intro | (intro _) | omega | assumption | with_reducible rfl)
  all_goals (first | ((rw [if_pos ‹_›]; rfl); done) | ((rw [if_neg (by simp [*])]; rfl); done) | (simp_all; done))
theorem sat_impl_Box_cut : Sat Tryz.prog rt0 93 (wkIn spCut) := sat_in (sat_out sat_impl_Box_cut_0)
def spTsI_A : Bx × Int × Int → List AV
  | (b, w, h) => [.agg (bxC b), I w, I h]
def spTsI_pre : Bx × Int × Int → Prop
  | (b, w, h) => szd w h = true ∧ prpB b
def spTsI_post : Bx × Int × Int → AV → List Box → Prop
  | (b, w, h), r, bs => r = .c (.own 0 (tsN b w h (tcnt w h).toNat).length false) ∧ bs = [⟨(tsN b w h (tcnt w h).toNat).map intC, 1, 3, true, false⟩]
def spTsI : VE.Spec := famSpec spTsI_A d_bx_i_i spTsI_pre spTsI_post 0 true
theorem spTsI_q : spTsI.flat = true ∧ spTsI.mt = [] ∧ spTsI.shut = false ∧ spTsI.cost = 0 ∧ (∀ a i, spTsI.pre a i = (i = [] ∧ famPre d_bx_i_i spTsI_A spTsI_pre a)) ∧ ∀ a i r b, spTsI.post a i r b = (famPost d_bx_i_i spTsI_post a r b) := ⟨rfl, rfl, rfl, rfl, fun _ _ => rfl, fun _ _ _ _ => rfl⟩
def spClipI_A : List Int → List AV := fun l => [.c (.own 0 l.length false)]
def spClipI_B : List Int → List Box := fun l => [⟨l.map intC, 1, 3, true, false⟩]
def spClipI_d : List AV → List Box → Option (List Int)
  | [.c (.own 0 _ false)], [⟨es, _, _, _, _⟩] => decAll intCd es
  | _, _ => none
def spClipI_pre : List Int → Prop := fun l => l.length ≤ 1000000000
def spClipI_post : List Int → AV → List Box → Prop := fun l r bs => r = .c (.own 0 (l).length false) ∧ bs = [⟨(l).map intC, 1, 3, true, false⟩]
def spClipI : VE.Spec := famSpecM spClipI_A spClipI_B spClipI_d spClipI_pre spClipI_post 0 false [true] false
theorem spClipI_q : spClipI.flat = false ∧ spClipI.mt = [true] ∧ spClipI.shut = false ∧ spClipI.cost = 0 ∧ (∀ a i, spClipI.pre a i = (famPreM spClipI_d spClipI_A spClipI_B spClipI_pre a i)) ∧ ∀ a i r b, spClipI.post a i r b = (famPostM spClipI_d spClipI_post a i r b) := ⟨rfl, rfl, rfl, rfl, fun _ _ => rfl, fun _ _ _ _ => rfl⟩
def tb95 : Nat → Option VE.Spec := tabOf []
theorem tb95_ok : TabOK Tryz.prog rt0 tb95 := tabOf_nil
set_option maxHeartbeats 4000000 in
theorem sat_slices_Clip_int_int_0 : Sat Tryz.prog rt0 95 (wkOut spClipI) := by
  refine fn_sat hm ttok (tab := tb95) tb95_ok Tryz.func95 (c := Tryz.f95.body.getD .skip) (by kernel_rfl) (ts := [.tmp 2]) (by kernel_rfl) Tryz.ntmps95 (sq := fun _ => true) (by kernel_rfl) ?_
  intro args ins pk hpre0 hpk
  obtain ⟨l, rfl, rfl, hpre, hdec⟩ := famPreM_ex hpre0
  clear hpre0 hdec
  try simp only [spClipI_pre] at hpre
  replace hpk : pk + 0 ≤ pickLimit := hpk
  refine ⟨Nat.le_of_ble_eq_true rfl, ?_⟩
  simp (config := { maxSteps := 1000000 }) only [go_sem, ↓ifP_true, ↓ifP_false, ↓ifP_not, Nat.reduceLT, Nat.reduceAdd, Nat.reduceBEq, Nat.reduceSub, Nat.reduceLeDiff, Nat.reduceEqDiff, Nat.reduceMul, Int.reduceToNat, Int.reduceEq, Int.reduceLT, Int.reduceLE, Int.reduceAdd, Int.reduceSub, Int.reduceMul, reduceCtorEq, cond_true, cond_false, forall_eq', forall_eq, forall_const, implies_true, if_true, if_false, exists_eq_left', exists_eq', exists_eq, ne_eq, Tryz.f95, spClipI_q, spClipI_A, spClipI_B, spClipI_d, spClipI_pre, spClipI_post]
  repeat' (first | apply And.intro | (intro _) | omega | assumption | with_reducible rfl)
  all_goals (first | (omega; done))
theorem sat_slices_Clip_int_int : Sat Tryz.prog rt0 95 (wkIn spClipI) := sat_in (sat_out sat_slices_Clip_int_int_0)
def tb60 : Nat → Option VE.Spec := tabOf [(20, wkIn spTc), (53, wkIn spTb), (93, wkIn spCut), (94, wkIn spEmB), (95, wkIn spClipI)]
theorem tb60_20 : tb60 20 = some (wkIn spTc) := rfl
theorem tb60_53 : tb60 53 = some (wkIn spTb) := rfl
theorem tb60_93 : tb60 93 = some (wkIn spCut) := rfl
theorem tb60_94 : tb60 94 = some (wkIn spEmB) := rfl
theorem tb60_95 : tb60 95 = some (wkIn spClipI) := rfl
theorem tb60_ok : TabOK Tryz.prog rt0 tb60 := (tabOf_cons (by kernel_rfl) sat_impl_TileCount (tabOf_cons (by kernel_rfl) sat_impl_TileBox (tabOf_cons (by kernel_rfl) sat_impl_Box_cut (tabOf_cons (by kernel_rfl) sat_impl_Box_empty (tabOf_cons (by kernel_rfl) sat_slices_Clip_int_int tabOf_nil)))))
set_option maxHeartbeats 4000000 in
theorem sat_impl_tilesIn_0 : Sat Tryz.prog rt0 60 (wkOut spTsI) := by
  refine fn_sat hm ttok (tab := tb60) tb60_ok Tryz.func60 (c := Tryz.f60.body.getD .skip) (by kernel_rfl) (ts := [.tmp 6]) (by kernel_rfl) Tryz.ntmps60 (sq := fun _ => true) (by kernel_rfl) ?_
  intro args ins pk hpre0 hpk
  obtain ⟨rfl, hpre0⟩ := hpre0
  obtain ⟨⟨b, w, h⟩, rfl, hpre, hdec⟩ := famPre_ex hpre0
  clear hpre0 hdec
  try simp only [spTsI_pre] at hpre
  replace hpk : pk + 0 ≤ pickLimit := hpk
  refine ⟨Nat.le_of_ble_eq_true rfl, ?_⟩
  have ha := acr_mul hpre.1
  have ht := tcnt_of hpre.1
  simp (config := { maxSteps := 1000000 }) only [go_sem, ↓ifP_true, ↓ifP_false, ↓ifP_not, Nat.reduceLT, Nat.reduceAdd, Nat.reduceBEq, Nat.reduceSub, Nat.reduceLeDiff, Nat.reduceEqDiff, Nat.reduceMul, Int.reduceToNat, Int.reduceEq, Int.reduceLT, Int.reduceLE, Int.reduceAdd, Int.reduceSub, Int.reduceMul, reduceCtorEq, cond_true, cond_false, forall_eq', forall_eq, forall_const, implies_true, if_true, if_false, exists_eq_left', exists_eq', exists_eq, ne_eq, Tryz.f60, tb60_20, tb60_53, tb60_93, tb60_94, tb60_95, spTsI_q, spTsI_A, spTsI_pre, spTsI_post, spTc_q, spTc_A, spTc_pre, spTc_post, spTb_q, spTb_A, spTb_pre, spTb_post, spCut_q, spCut_A, spCut_pre, spCut_post, spEmB_q, spEmB_A, spEmB_pre, spEmB_post, spClipI_q, spClipI_A, spClipI_B, spClipI_d, spClipI_pre, spClipI_post, cut_em]
  repeat' (first | apply And.intro | (intro _) | omega | assumption | with_reducible rfl)
  any_goals
    refine loopS (α := (List Int) × Int) false [0, 4, 5, 7, 8, 9, 10, 11, 12, 14, 15, 16, 17, 18, 19, 20, 21, 22, 23, 24, 25, 26, 27, 28, 29, 30, 31, 32, 33] (fun σ => [gId (σ.get 7)]) (fun σ x => [(7, .c (.own (gId (σ.get 7)) (x.1).length false)), (14, I x.2)]) (fun σ x => [(gId (σ.get 7), some ⟨(x.1).map intC, 1, 3, true, false⟩)]) (fun (o, i) => 0) (fun σ => (gL intCd σ (σ.get 7), gI (σ.get 14))) (fun σ τ => [(gId (σ.get 7), gId (τ.get 7))]) (fun (o, i) => (0 ≤ i ∧ i ≤ tcnt w h) ∧ o = tsN b w h i.toNat) (fun (o, i) => (tcnt w h - i).toNat) ⟨by (simp (config := { maxSteps := 1000000 }) only [go_sem, ↓ifP_true, ↓ifP_false, ↓ifP_not, Nat.reduceLT, Nat.reduceAdd, Nat.reduceBEq, Nat.reduceSub, Nat.reduceLeDiff, Nat.reduceEqDiff, Nat.reduceMul, Int.reduceToNat, Int.reduceEq, Int.reduceLT, Int.reduceLE, Int.reduceAdd, Int.reduceSub, Int.reduceMul, reduceCtorEq, cond_true, cond_false, forall_eq', forall_eq, forall_const, implies_true, if_true, if_false, exists_eq_left', exists_eq', exists_eq, ne_eq, Tryz.f60, tb60_20, tb60_53, tb60_93, tb60_94, tb60_95, spTsI_q, spTsI_A, spTsI_pre, spTsI_post, spTc_q, spTc_A, spTc_pre, spTc_post, spTb_q, spTb_A, spTb_pre, spTb_post, spCut_q, spCut_A, spCut_pre, spCut_post, spEmB_q, spEmB_A, spEmB_pre, spEmB_post, spClipI_q, spClipI_A, spClipI_B, spClipI_d, spClipI_pre, spClipI_post, cut_em]; (repeat' (first | apply And.intro | (intro _) | omega | assumption | with_reducible rfl)); all_goals (first | rfl | omega)), ?_⟩
    rintro ⟨o, i⟩ hinv
    try dsimp only at hinv
    simp (config := { maxSteps := 1000000 }) only [go_sem, ↓ifP_true, ↓ifP_false, ↓ifP_not, Nat.reduceLT, Nat.reduceAdd, Nat.reduceBEq, Nat.reduceSub, Nat.reduceLeDiff, Nat.reduceEqDiff, Nat.reduceMul, Int.reduceToNat, Int.reduceEq, Int.reduceLT, Int.reduceLE, Int.reduceAdd, Int.reduceSub, Int.reduceMul, reduceCtorEq, cond_true, cond_false, forall_eq', forall_eq, forall_const, implies_true, if_true, if_false, exists_eq_left', exists_eq', exists_eq, ne_eq, Tryz.f60, tb60_20, tb60_53, tb60_93, tb60_94, tb60_95, spTsI_q, spTsI_A, spTsI_pre, spTsI_post, spTc_q, spTc_A, spTc_pre, spTc_post, spTb_q, spTb_A, spTb_pre, spTb_post, spCut_q, spCut_A, spCut_pre, spCut_post, spEmB_q, spEmB_A, spEmB_pre, spEmB_post, spClipI_q, spClipI_A, spClipI_B, spClipI_d, spClipI_pre, spClipI_post, cut_em]
    have hol := tsN_len b w h i.toNat
    rw [← hinv.2] at hol
    repeat' (first | apply And.intro | (intro _) | omega | assumption | with_reducible rfl)
  
  all_goals (first | ((rename_i h1 h2; rw [tib hpre.1 hinv.1.1 h1] at h2; rw [hinv.2]; exact tsN_yes hinv.1.1 h2); done) | ((rename_i h1 h2; rw [tib hpre.1 hinv.1.1 h1] at h2; rw [hinv.2]; exact tsN_no hinv.1.1 h2); done) | ((rw [hinv.2, show i = tcnt w h by omega]); done) | (exact isT_lt hpre.1 hinv.1.1 (by omega); done) | (exact hpre.1; done) | ((rw [hinv.2]; refine tsN_yes hinv.1.1 ?_; simp only [ovB, decide_eq_true_eq]; omega); done) | ((rw [hinv.2]; refine tsN_no hinv.1.1 ?_; simp only [ovB, decide_eq_false_iff_not]; omega); done) | (skip; done))
theorem sat_impl_tilesIn : Sat Tryz.prog rt0 60 (wkIn spTsI) := sat_in (sat_out sat_impl_tilesIn_0)
end Go.Proofs.YtcejoknapbhloaaGreat
end
section
set_option maxRecDepth 100000
set_option linter.unusedSimpArgs false
set_option linter.unusedVariables false
namespace Go.Proofs.YtcejoknapbhloaaGreat
open Go Go.VE
def tb67 : Nat → Option VE.Spec := tabOf [(28, wkIn spTiles), (58, wkIn spTb2)]
theorem tb67_28 : tb67 28 = some (wkIn spTiles) := rfl
theorem tb67_58 : tb67 58 = some (wkIn spTb2) := rfl
theorem tb67_ok : TabOK Tryz.prog rt0 tb67 := (tabOf_cons (by kernel_rfl) sat_spec_tiles (tabOf_cons (by kernel_rfl) sat_spec_tileBox tabOf_nil))
set_option maxHeartbeats 4000000 in
theorem sat_spec_boxTiles_0 : Sat Tryz.prog rt0 67 (wkOut spTsI) := by
  refine fn_sat hm ttok (tab := tb67) tb67_ok Tryz.func67 (c := Tryz.f67.body.getD .skip) (by kernel_rfl) (ts := [.tmp 6]) (by kernel_rfl) Tryz.ntmps67 (sq := fun _ => true) (by kernel_rfl) ?_
  intro args ins pk hpre0 hpk
  obtain ⟨rfl, hpre0⟩ := hpre0
  obtain ⟨⟨b, w, h⟩, rfl, hpre, hdec⟩ := famPre_ex hpre0
  clear hpre0 hdec
  try simp only [spTsI_pre] at hpre
  replace hpk : pk + 0 ≤ pickLimit := hpk
  refine ⟨Nat.le_of_ble_eq_true rfl, ?_⟩
  have ha := acr_mul hpre.1
  have ht := tcnt_of hpre.1
  simp (config := { maxSteps := 1000000 }) only [go_sem, ↓ifP_true, ↓ifP_false, ↓ifP_not, Nat.reduceLT, Nat.reduceAdd, Nat.reduceBEq, Nat.reduceSub, Nat.reduceLeDiff, Nat.reduceEqDiff, Nat.reduceMul, Int.reduceToNat, Int.reduceEq, Int.reduceLT, Int.reduceLE, Int.reduceAdd, Int.reduceSub, Int.reduceMul, reduceCtorEq, cond_true, cond_false, forall_eq', forall_eq, forall_const, implies_true, if_true, if_false, exists_eq_left', exists_eq', exists_eq, ne_eq, Tryz.f67, tb67_28, tb67_58, spTsI_q, spTsI_A, spTsI_pre, spTsI_post, spTiles_q, spTiles_A, spTiles_pre, spTiles_post, spTb2_q, spTb2_A, spTb2_pre, spTb2_post]
  repeat' (first | apply And.intro | (intro _) | omega | assumption | with_reducible rfl)
  any_goals
    refine loopS (α := (List Int) × Int) false [0, 4, 5, 7, 8, 9, 10, 11, 12, 13, 14, 15, 16, 17, 18, 19, 20, 21, 22, 23, 24, 25, 26, 27, 28, 29, 30, 31, 32, 33, 34, 35, 36, 37, 38, 39, 40, 41, 42, 43, 44, 45, 46, 47, 48, 49] (fun σ => [gId (σ.get 7)]) (fun σ x => [(7, .c (.own (gId (σ.get 7)) (x.1).length false)), (8, I x.2)]) (fun σ x => [(gId (σ.get 7), some ⟨(x.1).map intC, 1, 3, true, false⟩)]) (fun (o, i) => 0) (fun σ => (gL intCd σ (σ.get 7), gI (σ.get 8))) (fun σ τ => [(gId (σ.get 7), gId (τ.get 7))]) (fun (o, i) => (0 ≤ i ∧ i ≤ tcnt w h) ∧ o = tsN b w h i.toNat) (fun (o, i) => (tcnt w h - i).toNat) ⟨by (simp (config := { maxSteps := 1000000 }) only [go_sem, ↓ifP_true, ↓ifP_false, ↓ifP_not, Nat.reduceLT, Nat.reduceAdd, Nat.reduceBEq, Nat.reduceSub, Nat.reduceLeDiff, Nat.reduceEqDiff, Nat.reduceMul, Int.reduceToNat, Int.reduceEq, Int.reduceLT, Int.reduceLE, Int.reduceAdd, Int.reduceSub, Int.reduceMul, reduceCtorEq, cond_true, cond_false, forall_eq', forall_eq, forall_const, implies_true, if_true, if_false, exists_eq_left', exists_eq', exists_eq, ne_eq, Tryz.f67, tb67_28, tb67_58, spTsI_q, spTsI_A, spTsI_pre, spTsI_post, spTiles_q, spTiles_A, spTiles_pre, spTiles_post, spTb2_q, spTb2_A, spTb2_pre, spTb2_post]; (repeat' (first | apply And.intro | (intro _) | omega | assumption | with_reducible rfl)); all_goals (first | rfl | omega)), ?_⟩
    rintro ⟨o, i⟩ hinv
    try dsimp only at hinv
    simp (config := { maxSteps := 1000000 }) only [go_sem, ↓ifP_true, ↓ifP_false, ↓ifP_not, Nat.reduceLT, Nat.reduceAdd, Nat.reduceBEq, Nat.reduceSub, Nat.reduceLeDiff, Nat.reduceEqDiff, Nat.reduceMul, Int.reduceToNat, Int.reduceEq, Int.reduceLT, Int.reduceLE, Int.reduceAdd, Int.reduceSub, Int.reduceMul, reduceCtorEq, cond_true, cond_false, forall_eq', forall_eq, forall_const, implies_true, if_true, if_false, exists_eq_left', exists_eq', exists_eq, ne_eq, Tryz.f67, tb67_28, tb67_58, spTsI_q, spTsI_A, spTsI_pre, spTsI_post, spTiles_q, spTiles_A, spTiles_pre, spTiles_post, spTb2_q, spTb2_A, spTb2_pre, spTb2_post]
    have hol := tsN_len b w h i.toNat
    rw [← hinv.2] at hol
    repeat' (first | apply And.intro | (intro _) | omega | assumption | with_reducible rfl)
  
  all_goals (first | ((rename_i h1 h2; rw [tib hpre.1 hinv.1.1 h1] at h2; rw [hinv.2]; exact tsN_yes hinv.1.1 h2); done) | ((rename_i h1 h2; rw [tib hpre.1 hinv.1.1 h1] at h2; rw [hinv.2]; exact tsN_no hinv.1.1 h2); done) | ((rw [hinv.2, show i = tcnt w h by omega]); done) | (exact isT_lt hpre.1 hinv.1.1 (by omega); done) | (exact hpre.1; done) | ((rw [hinv.2]; refine tsN_yes hinv.1.1 ?_; simp only [ovB, decide_eq_true_eq]; omega); done) | ((rw [hinv.2]; refine tsN_no hinv.1.1 ?_; simp only [ovB, decide_eq_false_iff_not]; omega); done) | (skip; done))
theorem sat_spec_boxTiles : Sat Tryz.prog rt0 67 (wkIn spTsI) := sat_in (sat_out sat_spec_boxTiles_0)
end Go.Proofs.YtcejoknapbhloaaGreat
end
section
set_option maxRecDepth 100000
set_option linter.unusedSimpArgs false
set_option linter.unusedVariables false
namespace Go.Proofs.YtcejoknapbhloaaGreat
open Go Go.VE
def spFlB_A : Fil → List AV
  | f => [.agg (flC f)]
def spFlB_pre : Fil → Prop
  | f => okF f ∧ vFil f = true
def spFlB_post : Fil → AV → List Box → Prop
  | f, r, bs => r = .agg (bxC (flB f.p)) ∧ bs = []
def spFlB : VE.Spec := famSpec spFlB_A d_fl spFlB_pre spFlB_post 0 true
theorem spFlB_q : spFlB.flat = true ∧ spFlB.mt = [] ∧ spFlB.shut = false ∧ spFlB.cost = 0 ∧ (∀ a i, spFlB.pre a i = (i = [] ∧ famPre d_fl spFlB_A spFlB_pre a)) ∧ ∀ a i r b, spFlB.post a i r b = (famPost d_fl spFlB_post a r b) := ⟨rfl, rfl, rfl, rfl, fun _ _ => rfl, fun _ _ _ _ => rfl⟩
theorem vFil_pts {f : Fil} (h : vFil f = true) : vPath f.p = true ∧ vRings (ringsOf f.p) = true ∧ (ringsOf f.p).length ≤ 31 ∧ total (ringsOf f.p) ≤ 1000000 := by
  simp only [vFil, Bool.and_eq_true] at h
  have h1 := rings_ok h.1.1.1
  have h2 := rings_total h.1.1.1
  exact ⟨h.1.1.1, h.1.1.2, h1.2.1, by omega⟩
theorem flB_0 {p : List Verb} (h : ((ringsOf p).flatten.length : Int) = 0) : flB p = ⟨0, 0, 0, 0⟩ := if_pos (List.eq_nil_of_length_eq_zero (by omega))
theorem fl_ne {l : List Pt} (h : ¬ (l.length : Int) = 0) : l ≠ [] := by rintro rfl; simp at h
theorem flB_1 {p : List Verb} (h : ¬ ((ringsOf p).flatten.length : Int) = 0) : flB p = pxB (bnd (ringsOf p).flatten) := if_neg (fl_ne h)
def fbV (f : Fil) : Bx := if vFil f = true then flB f.p else ⟨0, 0, 0, 0⟩
def spFbV_A : Fil → List AV
  | f => [.agg (flC f)]
def spFbV_pre : Fil → Prop
  | f => okF f
def spFbV_post : Fil → AV → List Box → Prop
  | f, r, bs => r = .agg (bxC (fbV f)) ∧ bs = []
def spFbV : VE.Spec := famSpec spFbV_A d_fl spFbV_pre spFbV_post 0 true
theorem spFbV_q : spFbV.flat = true ∧ spFbV.mt = [] ∧ spFbV.shut = false ∧ spFbV.cost = 0 ∧ (∀ a i, spFbV.pre a i = (i = [] ∧ famPre d_fl spFbV_A spFbV_pre a)) ∧ ∀ a i r b, spFbV.post a i r b = (famPost d_fl spFbV_post a r b) := ⟨rfl, rfl, rfl, rfl, fun _ _ => rfl, fun _ _ _ _ => rfl⟩
def tb61 : Nat → Option VE.Spec := tabOf [(77, wkIn spRings), (96, wkIn spCct), (98, wkIn spBnd), (97, wkIn spPxB)]
theorem tb61_77 : tb61 77 = some (wkIn spRings) := rfl
theorem tb61_96 : tb61 96 = some (wkIn spCct) := rfl
theorem tb61_98 : tb61 98 = some (wkIn spBnd) := rfl
theorem tb61_97 : tb61 97 = some (wkIn spPxB) := rfl
theorem tb61_ok : TabOK Tryz.prog rt0 tb61 := (tabOf_cons (by kernel_rfl) sat_impl_rings (tabOf_cons (by kernel_rfl) sat_slices_Concat_impl_Point_impl_Point (tabOf_cons (by kernel_rfl) sat_impl_boxOf (tabOf_cons (by kernel_rfl) sat_impl_PixelBox tabOf_nil))))
set_option maxHeartbeats 4000000 in
theorem sat_impl_Fill_box_0 : Sat Tryz.prog rt0 61 (wkOut spFlB) := by
  refine fn_sat hm ttok (tab := tb61) tb61_ok Tryz.func61 (c := Tryz.f61.body.getD .skip) (by kernel_rfl) (ts := [.cell 2 90]) (by kernel_rfl) Tryz.ntmps61 (sq := fun _ => true) (by kernel_rfl) ?_
  intro args ins pk hpre0 hpk
  obtain ⟨rfl, hpre0⟩ := hpre0
  obtain ⟨f, rfl, hpre, hdec⟩ := famPre_ex hpre0
  clear hpre0 hdec
  try simp only [spFlB_pre] at hpre
  replace hpk : pk + 0 ≤ pickLimit := hpk
  refine ⟨Nat.le_of_ble_eq_true rfl, ?_⟩
  obtain ⟨hv1, hv2, hv3, hv4⟩ := vFil_pts hpre.2
  have hun := flat_units hv2
  have hfl := flat_len (ringsOf f.p)
  simp (config := { maxSteps := 1000000 }) only [go_sem, ↓ifP_true, ↓ifP_false, ↓ifP_not, Nat.reduceLT, Nat.reduceAdd, Nat.reduceBEq, Nat.reduceSub, Nat.reduceLeDiff, Nat.reduceEqDiff, Nat.reduceMul, Int.reduceToNat, Int.reduceEq, Int.reduceLT, Int.reduceLE, Int.reduceAdd, Int.reduceSub, Int.reduceMul, reduceCtorEq, cond_true, cond_false, forall_eq', forall_eq, forall_const, implies_true, if_true, if_false, exists_eq_left', exists_eq', exists_eq, ne_eq, Tryz.f61, tb61_77, tb61_96, tb61_98, tb61_97, spFlB_q, spFlB_A, spFlB_pre, spFlB_post, spRings_q, spRings_A, spRings_pre, spRings_post, spCct_q, spCct_A, spCct_pre, spCct_post, spBnd_q, spBnd_A, spBnd_pre, spBnd_post, spPxB_q, spPxB_A, spPxB_pre, spPxB_post]
  repeat' (first | apply And.intro | (intro _) | omega | assumption | with_reducible rfl)
  all_goals (first | (exact hv1; done) | ((rw [hfl]; omega); done) | (omega; done) | (exact bnd_ok (fl_ne ‹_›) hun; done) | ((rw [flB_0 ‹_›]; rfl); done) | ((rw [flB_1 ‹_›]); done))
theorem sat_impl_Fill_box : Sat Tryz.prog rt0 61 (wkIn spFlB) := sat_in (sat_out sat_impl_Fill_box_0)
end Go.Proofs.YtcejoknapbhloaaGreat
end
section
set_option maxRecDepth 100000
set_option linter.unusedSimpArgs false
set_option linter.unusedVariables false
namespace Go.Proofs.YtcejoknapbhloaaGreat
open Go Go.VE
def tb69 : Nat → Option VE.Spec := tabOf [(65, wkIn spRings), (105, wkIn spCorners), (107, wkIn spBnd), (106, wkIn spPxB)]
theorem tb69_65 : tb69 65 = some (wkIn spRings) := rfl
theorem tb69_105 : tb69 105 = some (wkIn spCorners) := rfl
theorem tb69_107 : tb69 107 = some (wkIn spBnd) := rfl
theorem tb69_106 : tb69 106 = some (wkIn spPxB) := rfl
theorem tb69_ok : TabOK Tryz.prog rt0 tb69 := (tabOf_cons (by kernel_rfl) sat_spec_rings (tabOf_cons (by kernel_rfl) sat_spec_corners (tabOf_cons (by kernel_rfl) sat_spec_bounds (tabOf_cons (by kernel_rfl) sat_spec_pixelBox tabOf_nil))))
set_option maxHeartbeats 4000000 in
theorem sat_spec_fillBox_0 : Sat Tryz.prog rt0 69 (wkOut spFlB) := by
  refine fn_sat hm ttok (tab := tb69) tb69_ok Tryz.func69 (c := Tryz.f69.body.getD .skip) (by kernel_rfl) (ts := [.cell 2 90]) (by kernel_rfl) Tryz.ntmps69 (sq := fun _ => true) (by kernel_rfl) ?_
  intro args ins pk hpre0 hpk
  obtain ⟨rfl, hpre0⟩ := hpre0
  obtain ⟨f, rfl, hpre, hdec⟩ := famPre_ex hpre0
  clear hpre0 hdec
  try simp only [spFlB_pre] at hpre
  replace hpk : pk + 0 ≤ pickLimit := hpk
  refine ⟨Nat.le_of_ble_eq_true rfl, ?_⟩
  obtain ⟨hv1, hv2, hv3, hv4⟩ := vFil_pts hpre.2
  have hun := flat_units hv2
  have hfl := flat_len (ringsOf f.p)
  simp (config := { maxSteps := 1000000 }) only [go_sem, ↓ifP_true, ↓ifP_false, ↓ifP_not, Nat.reduceLT, Nat.reduceAdd, Nat.reduceBEq, Nat.reduceSub, Nat.reduceLeDiff, Nat.reduceEqDiff, Nat.reduceMul, Int.reduceToNat, Int.reduceEq, Int.reduceLT, Int.reduceLE, Int.reduceAdd, Int.reduceSub, Int.reduceMul, reduceCtorEq, cond_true, cond_false, forall_eq', forall_eq, forall_const, implies_true, if_true, if_false, exists_eq_left', exists_eq', exists_eq, ne_eq, Tryz.f69, tb69_65, tb69_105, tb69_107, tb69_106, spFlB_q, spFlB_A, spFlB_pre, spFlB_post, spRings_q, spRings_A, spRings_pre, spRings_post, spCorners_q, spCorners_A, spCorners_pre, spCorners_post, spBnd_q, spBnd_A, spBnd_pre, spBnd_post, spPxB_q, spPxB_A, spPxB_pre, spPxB_post]
  repeat' (first | apply And.intro | (intro _) | omega | assumption | with_reducible rfl)
  all_goals (first | (exact hv1; done) | ((rw [hfl]; omega); done) | (omega; done) | (exact bnd_ok (fl_ne ‹_›) hun; done) | ((rw [flB_0 ‹_›]; rfl); done) | ((rw [flB_1 ‹_›]); done))
theorem sat_spec_fillBox : Sat Tryz.prog rt0 69 (wkIn spFlB) := sat_in (sat_out sat_spec_fillBox_0)
end Go.Proofs.YtcejoknapbhloaaGreat
end
section
set_option maxRecDepth 100000
set_option linter.unusedSimpArgs false
set_option linter.unusedVariables false
namespace Go.Proofs.YtcejoknapbhloaaGreat
open Go Go.VE
def okRp (s : Scn) (a : Int) (f : Fil) : Bool := vScn s && decide (0 ≤ a ∧ a ≤ (s.fs.length : Int) - 1) && vFil f
def dmgB (s : Scn) (a : Int) (f : Fil) : Bx := jnB (flB ((s.fs[a.toNat]?).getD f).p) (flB f.p)
def dmg (s : Scn) (a : Int) (f : Fil) : List Int := if okRp s a f = true then tsN (dmgB s a f) s.w s.h (tcnt s.w s.h).toNat else []
theorem rp_parts {s : Scn} {a : Int} {f : Fil} (h : okRp s a f = true) : vScn s = true ∧ 0 ≤ a ∧ a ≤ (s.fs.length : Int) - 1 ∧ vFil f = true := by
  simp only [okRp, Bool.and_eq_true, decide_eq_true_eq] at h
  exact ⟨h.1.1, h.1.2.1, h.1.2.2, h.2⟩
theorem rp_of {s : Scn} {a : Int} {f : Fil} (h1 : vScn s = true) (h2 : 0 ≤ a) (h3 : a ≤ (s.fs.length : Int) - 1) (h4 : vFil f = true) : okRp s a f = true := by
  rw [okRp, h1, h4, decide_eq_true ⟨h2, h3⟩]; rfl
theorem rp_n1 {s : Scn} {a : Int} {f : Fil} (h : vScn s = false) : okRp s a f = false := by rw [okRp, h]; rfl
theorem rp_n2 {s : Scn} {a : Int} {f : Fil} (h : ¬ (0 ≤ a ∧ a ≤ (s.fs.length : Int) - 1)) : okRp s a f = false := by rw [okRp, decide_eq_false h, Bool.and_false]; rfl
theorem rp_n3 {s : Scn} {a : Int} {f : Fil} (h : vFil f = false) : okRp s a f = false := by rw [okRp, h, Bool.and_false]
theorem dmg_no {s : Scn} {a : Int} {f : Fil} (h : okRp s a f = false) : dmg s a f = [] := if_neg (by rw [h]; decide)
theorem dmg_yes {s : Scn} {a : Int} {f g : Fil} (h : okRp s a f = true) (hg : s.fs[a.toNat]? = some g) : tsN (jnB (flB g.p) (flB f.p)) s.w s.h (tcnt s.w s.h).toNat = dmg s a f := by
  rw [dmg, if_pos h, dmgB, hg]; rfl
theorem vScn_fil {s : Scn} {g : Fil} {i : Nat} (h : vScn s = true) (hg : s.fs[i]? = some g) : vFil g = true := List.all_eq_true.1 (vScn_parts h).2.2 g (List.mem_of_getElem? hg)
theorem jnB_prp {a b : Bx} (ha : prpB a) (hb : prpB b) : prpB (jnB a b) := by
  unfold jnB
  split
  · split
    · exact ⟨.inl rfl, by simp⟩
    · exact hb
  · split
    · exact ha
    · rename_i h1 h2
      rw [prp_em ha, decide_eq_true_eq] at h1
      rw [prp_em hb, decide_eq_true_eq] at h2
      obtain ⟨ha1, ha2⟩ := ha
      obtain ⟨hb1, hb2⟩ := hb
      rcases ha1 with rfl | ha1
      · exact absurd (.inl rfl) h1
      · rcases hb1 with rfl | hb1
        · exact absurd (.inl rfl) h2
        · refine ⟨.inr ?_, ?_⟩ <;> dsimp only <;> omega
def spRpl_A : Scn × Int × Fil → List AV
  | (s, a, f) => [.agg (scC s), I a, .agg (flC f)]
def spRpl_pre : Scn × Int × Fil → Prop
  | (s, a, f) => okFs s.fs ∧ okF f
def spRpl_post : Scn × Int × Fil → AV → List Box → Prop
  | (s, a, f), r, bs => r = B (okRp s a f) ∧ bs = []
def spRpl : VE.Spec := famSpec spRpl_A d_sc_i_fl spRpl_pre spRpl_post 0 true
theorem spRpl_q : spRpl.flat = true ∧ spRpl.mt = [] ∧ spRpl.shut = false ∧ spRpl.cost = 0 ∧ (∀ a i, spRpl.pre a i = (i = [] ∧ famPre d_sc_i_fl spRpl_A spRpl_pre a)) ∧ ∀ a i r b, spRpl.post a i r b = (famPost d_sc_i_fl spRpl_post a r b) := ⟨rfl, rfl, rfl, rfl, fun _ _ => rfl, fun _ _ _ _ => rfl⟩
def tb32 : Nat → Option VE.Spec := tabOf [(18, wkIn spVScn), (48, wkIn spIn), (47, wkIn spVFil)]
theorem tb32_18 : tb32 18 = some (wkIn spVScn) := rfl
theorem tb32_48 : tb32 48 = some (wkIn spIn) := rfl
theorem tb32_47 : tb32 47 = some (wkIn spVFil) := rfl
theorem tb32_ok : TabOK Tryz.prog rt0 tb32 := (tabOf_cons (by kernel_rfl) sat_impl_ValidScene (tabOf_cons (by kernel_rfl) sat_impl_in (tabOf_cons (by kernel_rfl) sat_impl_Fill_valid tabOf_nil)))
set_option maxHeartbeats 4000000 in
theorem sat_impl_replaceable_0 : Sat Tryz.prog rt0 32 (wkOut spRpl) := by
  refine fn_sat hm ttok (tab := tb32) tb32_ok Tryz.func32 (c := Tryz.f32.body.getD .skip) (by kernel_rfl) (ts := [.tmp 6]) (by kernel_rfl) Tryz.ntmps32 (sq := fun _ => true) (by kernel_rfl) ?_
  intro args ins pk hpre0 hpk
  obtain ⟨rfl, hpre0⟩ := hpre0
  obtain ⟨⟨s, a, f⟩, rfl, hpre, hdec⟩ := famPre_ex hpre0
  clear hpre0 hdec
  try simp only [spRpl_pre] at hpre
  replace hpk : pk + 0 ≤ pickLimit := hpk
  refine ⟨Nat.le_of_ble_eq_true rfl, ?_⟩
  simp (config := { maxSteps := 1000000 }) only [go_sem, ↓ifP_true, ↓ifP_false, ↓ifP_not, Nat.reduceLT, Nat.reduceAdd, Nat.reduceBEq, Nat.reduceSub, Nat.reduceLeDiff, Nat.reduceEqDiff, Nat.reduceMul, Int.reduceToNat, Int.reduceEq, Int.reduceLT, Int.reduceLE, Int.reduceAdd, Int.reduceSub, Int.reduceMul, reduceCtorEq, cond_true, cond_false, forall_eq', forall_eq, forall_const, implies_true, if_true, if_false, exists_eq_left', exists_eq', exists_eq, ne_eq, Tryz.f32, tb32_18, tb32_48, tb32_47, spRpl_q, spRpl_A, spRpl_pre, spRpl_post, spVScn_q, spVScn_A, spVScn_pre, spVScn_post, spIn_q, spIn_A, spIn_pre, spIn_post, spVFil_q, spVFil_A, spVFil_pre, spVFil_post]
  repeat' (first | apply And.intro | (intro _) | omega | assumption | with_reducible rfl)
  all_goals (first | (exact hpre.1; done) | (exact hpre.2; done) | ((have h9 := hpre.1.len; omega); done) | (exact (rp_n1 ‹_›).symm; done) | (exact (rp_n2 ‹_›).symm; done) | (exact (rp_n3 ‹_›).symm; done) | ((simp [okRp, *]; done); done) | (simp_all [okRp]; done))
theorem sat_impl_replaceable : Sat Tryz.prog rt0 32 (wkIn spRpl) := sat_in (sat_out sat_impl_replaceable_0)
def spDmg_A : Scn × Int × Fil → List AV
  | (s, a, f) => [.agg (scC s), I a, .agg (flC f)]
def spDmg_pre : Scn × Int × Fil → Prop
  | (s, a, f) => okFs s.fs ∧ okF f
def spDmg_post : Scn × Int × Fil → AV → List Box → Prop
  | (s, a, f), r, bs => r = .c (.sl false (((dmg s a f)).map intC)) ∧ bs = []
def spDmg : VE.Spec := famSpecS spDmg_A d_sc_i_fl spDmg_pre spDmg_post 0 false
theorem spDmg_q : spDmg.flat = false ∧ spDmg.mt = [] ∧ spDmg.shut = true ∧ spDmg.cost = 0 ∧ (∀ a i, spDmg.pre a i = (i = [] ∧ famPre d_sc_i_fl spDmg_A spDmg_pre a)) ∧ ∀ a i r b, spDmg.post a i r b = (famPost d_sc_i_fl spDmg_post a r b) := ⟨rfl, rfl, rfl, rfl, fun _ _ => rfl, fun _ _ _ _ => rfl⟩
def tb34 : Nat → Option VE.Spec := tabOf [(32, wkIn spRpl), (61, wkIn spFlB), (62, wkIn spJnB), (60, wkIn spTsI)]
theorem tb34_32 : tb34 32 = some (wkIn spRpl) := rfl
theorem tb34_61 : tb34 61 = some (wkIn spFlB) := rfl
theorem tb34_62 : tb34 62 = some (wkIn spJnB) := rfl
theorem tb34_60 : tb34 60 = some (wkIn spTsI) := rfl
theorem tb34_ok : TabOK Tryz.prog rt0 tb34 := (tabOf_cons (by kernel_rfl) sat_impl_replaceable (tabOf_cons (by kernel_rfl) sat_impl_Fill_box (tabOf_cons (by kernel_rfl) sat_impl_Box_join (tabOf_cons (by kernel_rfl) sat_impl_tilesIn tabOf_nil))))
set_option maxHeartbeats 4000000 in
theorem sat_impl_DamageOf_0 : Sat Tryz.prog rt0 34 (wkOut spDmg) := by
  refine fn_sat hm ttok (tab := tb34) tb34_ok Tryz.func34 (c := Tryz.f34.body.getD .skip) (by kernel_rfl) (ts := [.tmp 6]) (by kernel_rfl) Tryz.ntmps34 (sq := fun id => !(id == 3)) (by kernel_rfl) ?_
  intro args ins pk hpre0 hpk
  obtain ⟨rfl, hpre0⟩ := hpre0
  obtain ⟨⟨s, a, f⟩, rfl, hpre, hdec⟩ := famPre_ex hpre0
  clear hpre0 hdec
  try simp only [spDmg_pre] at hpre
  replace hpk : pk + 0 ≤ pickLimit := hpk
  refine ⟨Nat.le_of_ble_eq_true rfl, ?_⟩
  simp (config := { maxSteps := 1000000 }) only [go_sem, ↓ifP_true, ↓ifP_false, ↓ifP_not, Nat.reduceLT, Nat.reduceAdd, Nat.reduceBEq, Nat.reduceSub, Nat.reduceLeDiff, Nat.reduceEqDiff, Nat.reduceMul, Int.reduceToNat, Int.reduceEq, Int.reduceLT, Int.reduceLE, Int.reduceAdd, Int.reduceSub, Int.reduceMul, reduceCtorEq, cond_true, cond_false, forall_eq', forall_eq, forall_const, implies_true, if_true, if_false, exists_eq_left', exists_eq', exists_eq, ne_eq, Tryz.f34, tb34_32, tb34_61, tb34_62, tb34_60, spDmg_q, spDmg_A, spDmg_pre, spDmg_post, spRpl_q, spRpl_A, spRpl_pre, spRpl_post, spFlB_q, spFlB_A, spFlB_pre, spFlB_post, spJnB_q, spJnB_A, spJnB_pre, spJnB_post, spTsI_q, spTsI_A, spTsI_pre, spTsI_post]
  repeat' (first | apply And.intro | (intro _) | omega | assumption | with_reducible rfl)
  all_goals try (refine drawI (VE.Plan.first 0 (VE.Plan.first 1 (VE.Plan.first 2 (VE.Plan.first 3 (VE.Plan.first 4 (VE.Plan.first 6 (VE.Plan.first 9 (VE.Plan.first 10 (VE.Plan.first 11 (VE.Plan.first 12 (VE.Plan.alt 5 (VE.Plan.alt 7 (VE.Plan.alt 8 (VE.Plan.alt 13 (VE.Plan.alt 14 VE.Plan.nil VE.Plan.nil) VE.Plan.nil) VE.Plan.nil) VE.Plan.nil) VE.Plan.nil))))))))))) (by decide +kernel) ?_; simp (config := { maxSteps := 1000000 }) only [go_sem, ↓ifP_true, ↓ifP_false, ↓ifP_not, Nat.reduceLT, Nat.reduceAdd, Nat.reduceBEq, Nat.reduceSub, Nat.reduceLeDiff, Nat.reduceEqDiff, Nat.reduceMul, Int.reduceToNat, Int.reduceEq, Int.reduceLT, Int.reduceLE, Int.reduceAdd, Int.reduceSub, Int.reduceMul, reduceCtorEq, cond_true, cond_false, forall_eq', forall_eq, forall_const, implies_true, if_true, if_false, exists_eq_left', exists_eq', exists_eq, ne_eq, planW, stepW, Tryz.f34, tb34_32, tb34_61, tb34_62, tb34_60, spDmg_q, spDmg_A, spDmg_pre, spDmg_post, spRpl_q, spRpl_A, spRpl_pre, spRpl_post, spFlB_q, spFlB_A, spFlB_pre, spFlB_post, spJnB_q, spJnB_A, spJnB_pre, spJnB_post, spTsI_q, spTsI_A, spTsI_pre, spTsI_post]; repeat' (first | apply And.intro | (intro _) | omega | assumption | with_reducible rfl))
  all_goals (first | (exact hpre; done) | (exact hpre.1; done) | (exact hpre.2; done) | ((have h9 := rp_parts ‹okRp s a f = true›; omega); done) | (exact ⟨okFs_at hpre.1 ‹_›, vScn_fil (rp_parts ‹okRp s a f = true›).1 ‹_›⟩; done) | (exact ⟨hpre.2, (rp_parts ‹okRp s a f = true›).2.2.2⟩; done) | (exact hpre.2.1; done) | (exact okFs_at hpre.1 ‹_›; done) | (exact vScn_fil (rp_parts ‹okRp s a f = true›).1 ‹_›; done) | (exact (rp_parts ‹okRp s a f = true›).2.2.2; done) | (exact flB_prp (vFil_pts (vScn_fil (rp_parts ‹okRp s a f = true›).1 ‹_›)).2.1; done) | (exact flB_prp (vFil_pts (rp_parts ‹okRp s a f = true›).2.2.2).2.1; done) | (exact (vScn_parts (rp_parts ‹okRp s a f = true›).1).1; done) | (exact jnB_prp (flB_prp (vFil_pts (vScn_fil (rp_parts ‹okRp s a f = true›).1 ‹_›)).2.1) (flB_prp (vFil_pts (rp_parts ‹okRp s a f = true›).2.2.2).2.1); done) | ((rw [dmg_yes ‹_› ‹_›]); done) | ((rw [dmg_no ‹_›]; rfl); done) | (skip; done))
theorem sat_impl_DamageOf : Sat Tryz.prog rt0 34 (wkIn spDmg) := sat_in (sat_out sat_impl_DamageOf_0)
end Go.Proofs.YtcejoknapbhloaaGreat
end
section
set_option maxRecDepth 100000
set_option linter.unusedSimpArgs false
set_option linter.unusedVariables false
namespace Go.Proofs.YtcejoknapbhloaaGreat
open Go Go.VE
def spDmg2_A : Scn × Int × Fil → List AV
  | (s, a, f) => [.agg (scC s), I a, .agg (flC f)]
def spDmg2_pre : Scn × Int × Fil → Prop
  | (s, a, f) => okFs s.fs ∧ okF f ∧ okRp s a f = true
def spDmg2_post : Scn × Int × Fil → AV → List Box → Prop
  | (s, a, f), r, bs => r = .c (.sl false (((dmg s a f)).map intC)) ∧ bs = []
def spDmg2 : VE.Spec := famSpecS spDmg2_A d_sc_i_fl spDmg2_pre spDmg2_post 0 false
theorem spDmg2_q : spDmg2.flat = false ∧ spDmg2.mt = [] ∧ spDmg2.shut = true ∧ spDmg2.cost = 0 ∧ (∀ a i, spDmg2.pre a i = (i = [] ∧ famPre d_sc_i_fl spDmg2_A spDmg2_pre a)) ∧ ∀ a i r b, spDmg2.post a i r b = (famPost d_sc_i_fl spDmg2_post a r b) := ⟨rfl, rfl, rfl, rfl, fun _ _ => rfl, fun _ _ _ _ => rfl⟩
def tb39 : Nat → Option VE.Spec := tabOf [(69, wkIn spFlB), (68, wkIn spJnB), (67, wkIn spTsI)]
theorem tb39_69 : tb39 69 = some (wkIn spFlB) := rfl
theorem tb39_68 : tb39 68 = some (wkIn spJnB) := rfl
theorem tb39_67 : tb39 67 = some (wkIn spTsI) := rfl
theorem tb39_ok : TabOK Tryz.prog rt0 tb39 := (tabOf_cons (by kernel_rfl) sat_spec_fillBox (tabOf_cons (by kernel_rfl) sat_spec_join (tabOf_cons (by kernel_rfl) sat_spec_boxTiles tabOf_nil)))
set_option maxHeartbeats 4000000 in
theorem sat_spec_damage_0 : Sat Tryz.prog rt0 39 (wkOut spDmg2) := by
  refine fn_sat hm ttok (tab := tb39) tb39_ok Tryz.func39 (c := Tryz.f39.body.getD .skip) (by kernel_rfl) (ts := [.tmp 6]) (by kernel_rfl) Tryz.ntmps39 (sq := fun id => !(id == 1)) (by kernel_rfl) ?_
  intro args ins pk hpre0 hpk
  obtain ⟨rfl, hpre0⟩ := hpre0
  obtain ⟨⟨s, a, f⟩, rfl, hpre, hdec⟩ := famPre_ex hpre0
  clear hpre0 hdec
  try simp only [spDmg2_pre] at hpre
  replace hpk : pk + 0 ≤ pickLimit := hpk
  refine ⟨Nat.le_of_ble_eq_true rfl, ?_⟩
  have hok := hpre.2.2
  simp (config := { maxSteps := 1000000 }) only [go_sem, ↓ifP_true, ↓ifP_false, ↓ifP_not, Nat.reduceLT, Nat.reduceAdd, Nat.reduceBEq, Nat.reduceSub, Nat.reduceLeDiff, Nat.reduceEqDiff, Nat.reduceMul, Int.reduceToNat, Int.reduceEq, Int.reduceLT, Int.reduceLE, Int.reduceAdd, Int.reduceSub, Int.reduceMul, reduceCtorEq, cond_true, cond_false, forall_eq', forall_eq, forall_const, implies_true, if_true, if_false, exists_eq_left', exists_eq', exists_eq, ne_eq, Tryz.f39, tb39_69, tb39_68, tb39_67, spDmg2_q, spDmg2_A, spDmg2_pre, spDmg2_post, spFlB_q, spFlB_A, spFlB_pre, spFlB_post, spJnB_q, spJnB_A, spJnB_pre, spJnB_post, spTsI_q, spTsI_A, spTsI_pre, spTsI_post]
  repeat' (first | apply And.intro | (intro _) | omega | assumption | with_reducible rfl)
  all_goals try (refine drawI (VE.Plan.first 0 (VE.Plan.first 1 (VE.Plan.first 2 (VE.Plan.first 3 (VE.Plan.first 4 (VE.Plan.first 6 (VE.Plan.first 9 (VE.Plan.first 10 (VE.Plan.first 11 (VE.Plan.first 12 (VE.Plan.alt 5 (VE.Plan.alt 7 (VE.Plan.alt 8 (VE.Plan.alt 13 (VE.Plan.alt 14 VE.Plan.nil VE.Plan.nil) VE.Plan.nil) VE.Plan.nil) VE.Plan.nil) VE.Plan.nil))))))))))) (by decide +kernel) ?_; simp (config := { maxSteps := 1000000 }) only [go_sem, ↓ifP_true, ↓ifP_false, ↓ifP_not, Nat.reduceLT, Nat.reduceAdd, Nat.reduceBEq, Nat.reduceSub, Nat.reduceLeDiff, Nat.reduceEqDiff, Nat.reduceMul, Int.reduceToNat, Int.reduceEq, Int.reduceLT, Int.reduceLE, Int.reduceAdd, Int.reduceSub, Int.reduceMul, reduceCtorEq, cond_true, cond_false, forall_eq', forall_eq, forall_const, implies_true, if_true, if_false, exists_eq_left', exists_eq', exists_eq, ne_eq, planW, stepW, Tryz.f39, tb39_69, tb39_68, tb39_67, spDmg2_q, spDmg2_A, spDmg2_pre, spDmg2_post, spFlB_q, spFlB_A, spFlB_pre, spFlB_post, spJnB_q, spJnB_A, spJnB_pre, spJnB_post, spTsI_q, spTsI_A, spTsI_pre, spTsI_post]; repeat' (first | apply And.intro | (intro _) | omega | assumption | with_reducible rfl))
  all_goals (first | (exact hpre; done) | (exact hpre.1; done) | (exact hpre.2; done) | ((have h9 := rp_parts ‹okRp s a f = true›; omega); done) | (exact ⟨okFs_at hpre.1 ‹_›, vScn_fil (rp_parts ‹okRp s a f = true›).1 ‹_›⟩; done) | (exact ⟨hpre.2, (rp_parts ‹okRp s a f = true›).2.2.2⟩; done) | (exact hpre.2.1; done) | (exact okFs_at hpre.1 ‹_›; done) | (exact vScn_fil (rp_parts ‹okRp s a f = true›).1 ‹_›; done) | (exact (rp_parts ‹okRp s a f = true›).2.2.2; done) | (exact flB_prp (vFil_pts (vScn_fil (rp_parts ‹okRp s a f = true›).1 ‹_›)).2.1; done) | (exact flB_prp (vFil_pts (rp_parts ‹okRp s a f = true›).2.2.2).2.1; done) | (exact (vScn_parts (rp_parts ‹okRp s a f = true›).1).1; done) | (exact jnB_prp (flB_prp (vFil_pts (vScn_fil (rp_parts ‹okRp s a f = true›).1 ‹_›)).2.1) (flB_prp (vFil_pts (rp_parts ‹okRp s a f = true›).2.2.2).2.1); done) | ((rw [dmg_yes ‹_› ‹_›]); done) | ((rw [dmg_no ‹_›]; rfl); done) | (skip; done))
theorem sat_spec_damage : Sat Tryz.prog rt0 39 (wkIn spDmg2) := sat_in (sat_out sat_spec_damage_0)
end Go.Proofs.YtcejoknapbhloaaGreat
end
