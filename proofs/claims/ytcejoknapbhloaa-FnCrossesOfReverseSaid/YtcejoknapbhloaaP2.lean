/- Contracts of functions of the program vectorraster, each proved for all states that fit its description. No conditions. -/
import Derived.Test.YtcejoknapbhloaaEE
import Derived.Test.YtcejoknapbhloaaP1
import Derived.Test.YtcejoknapbhloaaPF
import Derived.Test.YtcejoknapbhloaaPA
import Derived.Shelf.SlSortCmp.NoneTotal
import Derived.Test.YtcejoknapbhloaaRows
set_option linter.unusedSimpArgs false
set_option linter.unusedVariables false
section
namespace Go.Proofs
open Go.Shelf
def Ytcejoknapbhloaa.sortC_ren : Go.Shelf.Ren := ⟨fun | 6 => 55 | 15 => 72 | 14 => 71 | 28 => 92 | 29 => 93 | 20 => 84 | 21 => 85 | 22 => 86 | 23 => 87 | 24 => 88 | 25 => 89 | 26 => 90 | 27 => 91 | 46 => 100 | 47 => 101 | 48 => 102 | 49 => 103 | 50 => 104 | 57 => 106 | n => n, fun | 22 => 26 | 24 => 30 | 25 => 73 | 3 => 3 | 39 => 86 | 0 => 0 | 53 => 109 | 55 => 111 | 4 => 4 | 46 => 102 | 45 => 101 | 50 => 106 | 5 => 5 | 9 => 9 | 66 => 117 | 70 => 121 | 76 => 124 | 77 => 125 | n => n, fun | n => n⟩
theorem Ytcejoknapbhloaa.sortC : Go.Proofs.SlLaysF0.n6 Try.prog Ytcejoknapbhloaa.sortC_ren := {
  mixed := by kernel_rfl
  f6 := ⟨Try.f55.name, by decide, Try.func55.trans (congrArg some (by kernel_rfl))⟩
  f14 := ⟨Try.f71.name, by decide, Try.func71.trans (congrArg some (by kernel_rfl))⟩
  f15 := Try.func72.trans (congrArg some (by kernel_rfl))
  f20 := ⟨Try.f84.name, by decide, Try.func84.trans (congrArg some (by kernel_rfl))⟩
  f21 := ⟨Try.f85.name, by decide, Try.func85.trans (congrArg some (by kernel_rfl))⟩
  f22 := ⟨Try.f86.name, by decide, Try.func86.trans (congrArg some (by kernel_rfl))⟩
  f23 := ⟨Try.f87.name, by decide, Try.func87.trans (congrArg some (by kernel_rfl))⟩
  f24 := ⟨Try.f88.name, by decide, Try.func88.trans (congrArg some (by kernel_rfl))⟩
  f25 := ⟨Try.f89.name, by decide, Try.func89.trans (congrArg some (by kernel_rfl))⟩
  f26 := ⟨Try.f90.name, by decide, Try.func90.trans (congrArg some (by kernel_rfl))⟩
  f27 := ⟨Try.f91.name, by decide, Try.func91.trans (congrArg some (by kernel_rfl))⟩
  f28 := Try.func92.trans (congrArg some (by kernel_rfl))
  f29 := Try.func93.trans (congrArg some (by kernel_rfl))
  f46 := ⟨Try.f100.name, by decide, Try.func100.trans (congrArg some (by kernel_rfl))⟩
  f47 := Try.func101.trans (congrArg some (by kernel_rfl))
  f48 := Try.func102.trans (congrArg some (by kernel_rfl))
  f49 := ⟨Try.f103.name, by decide, Try.func103.trans (congrArg some (by kernel_rfl))⟩
  f50 := ⟨Try.f104.name, by decide, Try.func104.trans (congrArg some (by kernel_rfl))⟩
  f57 := ⟨Try.f106.name, by decide, Try.func106.trans (congrArg some (by kernel_rfl))⟩
  t0 := Try.underlying0
  a0 := Try.isAgg0
  z0 := Try.sizeOf0
  v0 := Try.zeroValue0
  t3 := Try.underlying3
  a3 := Try.isAgg3
  z3 := Try.sizeOf3
  v3 := Try.zeroValue3
  t4 := Try.underlying4
  a4 := Try.isAgg4
  z4 := Try.sizeOf4
  v4 := Try.zeroValue4
  t5 := Try.underlying5
  a5 := Try.isAgg5
  z5 := Try.sizeOf5
  v5 := Try.zeroValue5
  t9 := Try.underlying9
  a9 := Try.isAgg9
  z9 := Try.sizeOf9
  v9 := Try.zeroValue9
  t22 := Try.underlying26
  a22 := Try.isAgg26
  z22 := Try.sizeOf26
  v22 := Try.zeroValue26
  t25 := Try.underlying73
  a25 := Try.isAgg73
  z25 := Try.sizeOf73
  v25 := Try.zeroValue73
  t39 := Try.underlying86
  a39 := Try.isAgg86
  z39 := Try.sizeOf86
  v39 := Try.zeroValue86
  t45 := Try.underlying101
  a45 := Try.isAgg101
  z45 := Try.sizeOf101
  v45 := Try.zeroValue101
  t46 := Try.underlying102
  a46 := Try.isAgg102
  z46 := Try.sizeOf102
  v46 := Try.zeroValue102
  t50 := Try.underlying106
  a50 := Try.isAgg106
  z50 := Try.sizeOf106
  v50 := Try.zeroValue106
  t53 := Try.underlying109
  a53 := Try.isAgg109
  z53 := Try.sizeOf109
  v53 := Try.zeroValue109
  t55 := Try.underlying111
  a55 := Try.isAgg111
  z55 := Try.sizeOf111
  v55 := Try.zeroValue111
  t66 := Try.underlying117
  a66 := Try.isAgg117
  z66 := Try.sizeOf117
  v66 := Try.zeroValue117
  t70 := Try.underlying121
  a70 := Try.isAgg121
  z70 := Try.sizeOf121
  v70 := Try.zeroValue121
  t76 := Try.underlying124
  a76 := Try.isAgg124
  z76 := Try.sizeOf124
  v76 := Try.zeroValue124
  t77 := Try.underlying125
  a77 := Try.isAgg125
  z77 := Try.sizeOf125
  v77 := Try.zeroValue125 }
end Go.Proofs
end
section
set_option maxRecDepth 100000
set_option linter.unusedSimpArgs false
set_option linter.unusedVariables false
namespace Go.Proofs.Ytcejoknapbhloaa
open Go Go.VE
def spSrt_A : List Cross → List AV := fun l => [.c (.own 0 l.length false), .c (.fn 56 [])]
def spSrt_B : List Cross → List Box := fun l => [⟨l.map crC, 2, 30, true, false⟩]
def spSrt_d : List AV → List Box → Option (List Cross)
  | [.c (.own 0 _ false), .c (.fn f [])], [⟨es, _, _, _, _⟩] => match (if f = 56 then some () else none), decAll crCd es with
    | some _, some l => some l
    | _, _ => none
  | _, _ => none
def spSrt_pre : List Cross → Prop := fun l => l.length ≤ 1000000000
def spSrt_post : List Cross → AV → List Box → Prop := fun l r bs => r = .tup [] ∧ bs = [⟨(srt l).map crC, 2, 30, true, false⟩]
def spSrt : VE.Spec := famSpecM spSrt_A spSrt_B spSrt_d spSrt_pre spSrt_post 0 false [true] false
theorem spSrt_q : spSrt.flat = false ∧ spSrt.mt = [true] ∧ spSrt.shut = false ∧ spSrt.cost = 0 ∧ (∀ a i, spSrt.pre a i = (famPreM spSrt_d spSrt_A spSrt_B spSrt_pre a i)) ∧ ∀ a i r b, spSrt.post a i r b = (famPostM spSrt_d spSrt_post a i r b) := ⟨rfl, rfl, rfl, rfl, fun _ _ => rfl, fun _ _ _ _ => rfl⟩
def cfC (a b : Cross) : Int := if Lib.compareInt a.a b.a = 0 then Lib.compareInt a.s b.s else Lib.compareInt a.a b.a
theorem cfC_lt (a b : Cross) : Go.Proofs.ltOf cfC a b = bf a b := by
  unfold Go.Proofs.ltOf cfC Lib.compareInt bf
  by_cases h1 : a.a < b.a
  · simp [h1]
  · by_cases h2 : b.a < a.a
    · simp [h1, h2]; omega
    · by_cases h3 : a.s < b.s
      · simp [h1, h2, h3]; omega
      · by_cases h4 : b.s < a.s
        · simp [h1, h2, h3, h4]
        · simp [h1, h2, h3, h4]
theorem cfC_swo : Go.Sort.SWO (Go.Proofs.ltOf cfC) where
  irrefl x := by rw [cfC_lt]; simp [bf]
  trans x y z h1 h2 := by rw [cfC_lt] at *; simp only [bf, decide_eq_true_eq] at *; omega
  ntrans x y z h1 h2 := by rw [cfC_lt] at *; simp only [bf, decide_eq_false_iff_not] at *; omega
theorem cfC_tot (x y : Cross) (h1 : Go.Proofs.ltOf cfC x y = false) (h2 : Go.Proofs.ltOf cfC y x = false) : x = y := by
  rw [cfC_lt] at *
  simp only [bf, decide_eq_false_iff_not] at *
  obtain ⟨xa, xs⟩ := x
  obtain ⟨ya, ys⟩ := y
  dsimp only at *
  rw [show xa = ya by omega, show xs = ys by omega]
def encCr (c : Cross) : List Value := [.int .i64 c.a, .int .i64 c.s]
end Go.Proofs.Ytcejoknapbhloaa
end
section
set_option maxRecDepth 100000
set_option linter.unusedSimpArgs false
set_option linter.unusedVariables false
namespace Go.Proofs.Ytcejoknapbhloaa
open Go Go.VE
def orI (l : List Int) : Int := (l.find? fun n => !decide (n = 0)).getD 0
theorem cmp_1 {x y : Int} (h : x < y) : (-1 : Int) = Lib.compareInt x y := by rw [Lib.compareInt, if_pos h]
theorem cmp_2 {x y : Int} (h : ¬ x < y) (h2 : y < x) : (1 : Int) = Lib.compareInt x y := by rw [Lib.compareInt, if_neg h, if_pos h2]
theorem cmp_3 {x y : Int} (h : ¬ x < y) (h2 : ¬ y < x) : (0 : Int) = Lib.compareInt x y := by rw [Lib.compareInt, if_neg h, if_neg h2]
theorem cmp_bd (x y : Int) : -1 ≤ Lib.compareInt x y ∧ Lib.compareInt x y ≤ 1 := by unfold Lib.compareInt; split <;> (try split) <;> omega
theorem orI_at {l : List Int} {i k : Int} (h : (l.take i.toNat).all (fun n => decide (n = 0)) = true) (h0 : 0 ≤ i) (hk : l[i.toNat]? = some k) (hn : ¬ k = 0) : k = orI l := by
  have e : l = l.take i.toNat ++ k :: l.drop (i.toNat + 1) := by
    obtain ⟨hl, rfl⟩ := List.getElem?_eq_some_iff.1 hk
    rw [← List.drop_eq_getElem_cons hl, List.take_append_drop]
  rw [orI, e, List.find?_append]
  have hf : (l.take i.toNat).find? (fun n => !decide (n = 0)) = none := by
    rw [List.find?_eq_none]
    intro x hx
    have := List.all_eq_true.1 h x hx
    simpa using this
  rw [hf]
  simp [hn]
theorem orI_0 {l : List Int} {i : Int} (h : (l.take i.toNat).all (fun n => decide (n = 0)) = true) (hi : (l.length : Int) ≤ i) : 0 = orI l := by
  rw [takeA (by omega)] at h
  have hf : l.find? (fun n => !decide (n = 0)) = none := by
    rw [List.find?_eq_none]
    intro x hx
    have := List.all_eq_true.1 h x hx
    simpa using this
  rw [orI, hf]; rfl
theorem orI_2 (x y : Int) : orI [x, y] = if x = 0 then y else x := by
  by_cases h : x = 0
  · by_cases h2 : y = 0
    · simp [orI, h, h2]
    · simp [orI, h, h2]
  · simp [orI, h]
def spNaN_A : Int → List AV
  | x => [I x]
def spNaN_pre : Int → Prop
  | x => True
def spNaN_post : Int → AV → List Box → Prop
  | x, r, bs => r = B (false) ∧ bs = []
def spNaN : VE.Spec := famSpec spNaN_A d_i spNaN_pre spNaN_post 0 true
theorem spNaN_q : spNaN.flat = true ∧ spNaN.mt = [] ∧ spNaN.shut = false ∧ spNaN.cost = 0 ∧ (∀ a i, spNaN.pre a i = (i = [] ∧ famPre d_i spNaN_A spNaN_pre a)) ∧ ∀ a i r b, spNaN.post a i r b = (famPost d_i spNaN_post a r b) := ⟨rfl, rfl, rfl, rfl, fun _ _ => rfl, fun _ _ _ _ => rfl⟩
def tb73 : Nat → Option VE.Spec := tabOf []
theorem tb73_ok : TabOK Try.prog rt0 tb73 := tabOf_nil
set_option maxHeartbeats 4000000 in
theorem sat_cmp_isNaN_int_0 : Sat Try.prog rt0 73 (wkOut spNaN) := by
  refine fn_sat hm ttok (tab := tb73) tb73_ok Try.func73 (c := Try.f73.body.getD .skip) (by kernel_rfl) (ts := [.tmp 2]) (by kernel_rfl) Try.ntmps73 (sq := fun _ => true) (by kernel_rfl) ?_
  intro args ins pk hpre0 hpk
  obtain ⟨rfl, hpre0⟩ := hpre0
  obtain ⟨x, rfl, hpre, hdec⟩ := famPre_ex hpre0
  clear hpre0 hdec
  try simp only [spNaN_pre] at hpre
  replace hpk : pk + 0 ≤ pickLimit := hpk
  refine ⟨Nat.le_of_ble_eq_true rfl, ?_⟩
  simp (config := { maxSteps := 1000000 }) only [go_sem, ↓ifP_true, ↓ifP_false, ↓ifP_not, Nat.reduceLT, Nat.reduceAdd, Nat.reduceBEq, Nat.reduceSub, Nat.reduceLeDiff, Nat.reduceEqDiff, Nat.reduceMul, Int.reduceToNat, Int.reduceEq, Int.reduceLT, Int.reduceLE, Int.reduceAdd, Int.reduceSub, Int.reduceMul, reduceCtorEq, cond_true, cond_false, forall_eq', forall_eq, forall_const, implies_true, if_true, if_false, exists_eq_left', exists_eq', exists_eq, ne_eq, Try.f73, spNaN_q, spNaN_A, spNaN_pre, spNaN_post]
  repeat' (first | apply And.intro | (intro _) | omega | assumption | with_reducible rfl)
  all_goals (first | (rfl; done) | (simp; done))
theorem sat_cmp_isNaN_int : Sat Try.prog rt0 73 (wkIn spNaN) := sat_in (sat_out sat_cmp_isNaN_int_0)
def spCmp_A : Int × Int → List AV
  | (x, y) => [I x, I y]
def spCmp_pre : Int × Int → Prop
  | (x, y) => True
def spCmp_post : Int × Int → AV → List Box → Prop
  | (x, y), r, bs => r = I (Lib.compareInt x y) ∧ bs = []
def spCmp : VE.Spec := famSpec spCmp_A d_i_i spCmp_pre spCmp_post 0 true
theorem spCmp_q : spCmp.flat = true ∧ spCmp.mt = [] ∧ spCmp.shut = false ∧ spCmp.cost = 0 ∧ (∀ a i, spCmp.pre a i = (i = [] ∧ famPre d_i_i spCmp_A spCmp_pre a)) ∧ ∀ a i r b, spCmp.post a i r b = (famPost d_i_i spCmp_post a r b) := ⟨rfl, rfl, rfl, rfl, fun _ _ => rfl, fun _ _ _ _ => rfl⟩
def tb58 : Nat → Option VE.Spec := tabOf [(73, wkIn spNaN)]
theorem tb58_73 : tb58 73 = some (wkIn spNaN) := rfl
theorem tb58_ok : TabOK Try.prog rt0 tb58 := (tabOf_cons (by kernel_rfl) sat_cmp_isNaN_int tabOf_nil)
set_option maxHeartbeats 4000000 in
theorem sat_cmp_Compare_int_0 : Sat Try.prog rt0 58 (wkOut spCmp) := by
  refine fn_sat hm ttok (tab := tb58) tb58_ok Try.func58 (c := Try.f58.body.getD .skip) (by kernel_rfl) (ts := [.tmp 4]) (by kernel_rfl) Try.ntmps58 (sq := fun _ => true) (by kernel_rfl) ?_
  intro args ins pk hpre0 hpk
  obtain ⟨rfl, hpre0⟩ := hpre0
  obtain ⟨⟨x, y⟩, rfl, hpre, hdec⟩ := famPre_ex hpre0
  clear hpre0 hdec
  try simp only [spCmp_pre] at hpre
  replace hpk : pk + 0 ≤ pickLimit := hpk
  refine ⟨Nat.le_of_ble_eq_true rfl, ?_⟩
  simp (config := { maxSteps := 1000000 }) only [go_sem, ↓ifP_true, ↓ifP_false, ↓ifP_not, Nat.reduceLT, Nat.reduceAdd, Nat.reduceBEq, Nat.reduceSub, Nat.reduceLeDiff, Nat.reduceEqDiff, Nat.reduceMul, Int.reduceToNat, Int.reduceEq, Int.reduceLT, Int.reduceLE, Int.reduceAdd, Int.reduceSub, Int.reduceMul, reduceCtorEq, cond_true, cond_false, forall_eq', forall_eq, forall_const, implies_true, if_true, if_false, exists_eq_left', exists_eq', exists_eq, ne_eq, Try.f58, tb58_73, spCmp_q, spCmp_A, spCmp_pre, spCmp_post, spNaN_q, spNaN_A, spNaN_pre, spNaN_post]
  repeat' (first | apply And.intro | (intro _) | omega | assumption | with_reducible rfl)
  all_goals (first | (exact cmp_1 ‹_›; done) | (exact cmp_2 ‹_› ‹_›; done) | (exact cmp_3 ‹_› ‹_›; done))
theorem sat_cmp_Compare_int : Sat Try.prog rt0 58 (wkIn spCmp) := sat_in (sat_out sat_cmp_Compare_int_0)
def spOr_A : (List Int) → List AV
  | l => [.c (.sl false (l.map intC))]
def spOr_pre : (List Int) → Prop
  | l => l.length ≤ 1000000
def spOr_post : (List Int) → AV → List Box → Prop
  | l, r, bs => r = I (orI l) ∧ bs = []
def spOr : VE.Spec := famSpec spOr_A d_li spOr_pre spOr_post 0 true
theorem spOr_q : spOr.flat = true ∧ spOr.mt = [] ∧ spOr.shut = false ∧ spOr.cost = 0 ∧ (∀ a i, spOr.pre a i = (i = [] ∧ famPre d_li spOr_A spOr_pre a)) ∧ ∀ a i r b, spOr.post a i r b = (famPost d_li spOr_post a r b) := ⟨rfl, rfl, rfl, rfl, fun _ _ => rfl, fun _ _ _ _ => rfl⟩
def tb57 : Nat → Option VE.Spec := tabOf []
theorem tb57_ok : TabOK Try.prog rt0 tb57 := tabOf_nil
set_option maxHeartbeats 4000000 in
theorem sat_cmp_Or_int_0 : Sat Try.prog rt0 57 (wkOut spOr) := by
  refine fn_sat hm ttok (tab := tb57) tb57_ok Try.func57 (c := Try.f57.body.getD .skip) (by kernel_rfl) (ts := [.tmp 2]) (by kernel_rfl) Try.ntmps57 (sq := fun _ => true) (by kernel_rfl) ?_
  intro args ins pk hpre0 hpk
  obtain ⟨rfl, hpre0⟩ := hpre0
  obtain ⟨l, rfl, hpre, hdec⟩ := famPre_ex hpre0
  clear hpre0 hdec
  try simp only [spOr_pre] at hpre
  replace hpk : pk + 0 ≤ pickLimit := hpk
  refine ⟨Nat.le_of_ble_eq_true rfl, ?_⟩
  simp (config := { maxSteps := 1000000 }) only [go_sem, ↓ifP_true, ↓ifP_false, ↓ifP_not, Nat.reduceLT, Nat.reduceAdd, Nat.reduceBEq, Nat.reduceSub, Nat.reduceLeDiff, Nat.reduceEqDiff, Nat.reduceMul, Int.reduceToNat, Int.reduceEq, Int.reduceLT, Int.reduceLE, Int.reduceAdd, Int.reduceSub, Int.reduceMul, reduceCtorEq, cond_true, cond_false, forall_eq', forall_eq, forall_const, implies_true, if_true, if_false, exists_eq_left', exists_eq', exists_eq, ne_eq, Try.f57, spOr_q, spOr_A, spOr_pre, spOr_post]
  repeat' (first | apply And.intro | (intro _) | omega | assumption | with_reducible rfl)
  any_goals
    refine loopS (α := Int) false [0, 1, 2, 4, 5, 8, 9, 10, 11, 12, 13, 14, 15, 16] (fun σ => []) (fun σ x => [(8, I x)]) (fun σ x => []) (fun i => 0) (fun σ => gI (σ.get 8)) (fun σ τ => []) (fun i => (0 ≤ i ∧ i ≤ l.length) ∧ (l.take i.toNat).all (fun n => decide (n = 0)) = true) (fun i => (l.length - i).toNat) ⟨by (simp (config := { maxSteps := 1000000 }) only [go_sem, ↓ifP_true, ↓ifP_false, ↓ifP_not, Nat.reduceLT, Nat.reduceAdd, Nat.reduceBEq, Nat.reduceSub, Nat.reduceLeDiff, Nat.reduceEqDiff, Nat.reduceMul, Int.reduceToNat, Int.reduceEq, Int.reduceLT, Int.reduceLE, Int.reduceAdd, Int.reduceSub, Int.reduceMul, reduceCtorEq, cond_true, cond_false, forall_eq', forall_eq, forall_const, implies_true, if_true, if_false, exists_eq_left', exists_eq', exists_eq, ne_eq, Try.f57, spOr_q, spOr_A, spOr_pre, spOr_post]; (repeat' (first | apply And.intro | (intro _) | omega | assumption | with_reducible rfl)); all_goals (first | rfl)), ?_⟩
    rintro i hinv
    try dsimp only at hinv
    rcases elemAt l i (by omega) with ⟨hlt, k, hk⟩ | hlt
    all_goals (first | ((have hlt2 := of_eq_true hlt); all_goals simp (config := { maxSteps := 1000000 }) only [go_sem, ↓ifP_true, ↓ifP_false, ↓ifP_not, Nat.reduceLT, Nat.reduceAdd, Nat.reduceBEq, Nat.reduceSub, Nat.reduceLeDiff, Nat.reduceEqDiff, Nat.reduceMul, Int.reduceToNat, Int.reduceEq, Int.reduceLT, Int.reduceLE, Int.reduceAdd, Int.reduceSub, Int.reduceMul, reduceCtorEq, cond_true, cond_false, forall_eq', forall_eq, forall_const, implies_true, if_true, if_false, exists_eq_left', exists_eq', exists_eq, ne_eq, Try.f57, spOr_q, spOr_A, spOr_pre, spOr_post, hlt, hk]) | (have hlt2 := of_eq_false hlt; simp (config := { maxSteps := 1000000 }) only [go_sem, ↓ifP_true, ↓ifP_false, ↓ifP_not, Nat.reduceLT, Nat.reduceAdd, Nat.reduceBEq, Nat.reduceSub, Nat.reduceLeDiff, Nat.reduceEqDiff, Nat.reduceMul, Int.reduceToNat, Int.reduceEq, Int.reduceLT, Int.reduceLE, Int.reduceAdd, Int.reduceSub, Int.reduceMul, reduceCtorEq, cond_true, cond_false, forall_eq', forall_eq, forall_const, implies_true, if_true, if_false, exists_eq_left', exists_eq', exists_eq, ne_eq, Try.f57, spOr_q, spOr_A, spOr_pre, spOr_post, hlt]))
    all_goals
      repeat' (first | apply And.intro | (intro _) | omega | assumption | with_reducible rfl)
  
  all_goals (first | (exact orI_at hinv.2 hinv.1.1 hk ‹_›; done) | ((rw [takeN hk hinv.1.1, List.all_append, hinv.2]; simp [*]); done) | (exact orI_0 hinv.2 (by omega); done) | (skip; done))
theorem sat_cmp_Or_int : Sat Try.prog rt0 57 (wkIn spOr) := sat_in (sat_out sat_cmp_Or_int_0)
def spCfC_A : Cross × Cross → List AV
  | (a, b) => [.agg (crC a), .agg (crC b)]
def spCfC_pre : Cross × Cross → Prop
  | (a, b) => True
def spCfC_post : Cross × Cross → AV → List Box → Prop
  | (a, b), r, bs => r = I (cfC a b) ∧ bs = []
def spCfC : VE.Spec := famSpec spCfC_A d_cr_cr spCfC_pre spCfC_post 0 true
theorem spCfC_q : spCfC.flat = true ∧ spCfC.mt = [] ∧ spCfC.shut = false ∧ spCfC.cost = 0 ∧ (∀ a i, spCfC.pre a i = (i = [] ∧ famPre d_cr_cr spCfC_A spCfC_pre a)) ∧ ∀ a i r b, spCfC.post a i r b = (famPost d_cr_cr spCfC_post a r b) := ⟨rfl, rfl, rfl, rfl, fun _ _ => rfl, fun _ _ _ _ => rfl⟩
def tb56 : Nat → Option VE.Spec := tabOf [(58, wkIn spCmp), (57, wkIn spOr)]
theorem tb56_58 : tb56 58 = some (wkIn spCmp) := rfl
theorem tb56_57 : tb56 57 = some (wkIn spOr) := rfl
theorem tb56_ok : TabOK Try.prog rt0 tb56 := (tabOf_cons (by kernel_rfl) sat_cmp_Compare_int (tabOf_cons (by kernel_rfl) sat_cmp_Or_int tabOf_nil))
set_option maxHeartbeats 4000000 in
theorem sat_impl_crosses_1_0 : Sat Try.prog rt0 56 spCfC := by
  refine fn_sat hm ttok (tab := tb56) tb56_ok Try.func56 (c := Try.f56.body.getD .skip) (by kernel_rfl) (ts := [.tmp 4]) (by kernel_rfl) Try.ntmps56 (sq := fun id => !(id == 1)) (by kernel_rfl) ?_
  intro args ins pk hpre0 hpk
  obtain ⟨rfl, hpre0⟩ := hpre0
  obtain ⟨⟨a, b⟩, rfl, hpre, hdec⟩ := famPre_ex hpre0
  clear hpre0 hdec
  try simp only [spCfC_pre] at hpre
  replace hpk : pk + 0 ≤ pickLimit := hpk
  refine ⟨Nat.le_of_ble_eq_true rfl, ?_⟩
  simp (config := { maxSteps := 1000000 }) only [go_sem, ↓ifP_true, ↓ifP_false, ↓ifP_not, Nat.reduceLT, Nat.reduceAdd, Nat.reduceBEq, Nat.reduceSub, Nat.reduceLeDiff, Nat.reduceEqDiff, Nat.reduceMul, Int.reduceToNat, Int.reduceEq, Int.reduceLT, Int.reduceLE, Int.reduceAdd, Int.reduceSub, Int.reduceMul, reduceCtorEq, cond_true, cond_false, forall_eq', forall_eq, forall_const, implies_true, if_true, if_false, exists_eq_left', exists_eq', exists_eq, ne_eq, Try.f56, tb56_58, tb56_57, spCfC_q, spCfC_A, spCfC_pre, spCfC_post, spCmp_q, spCmp_A, spCmp_pre, spCmp_post, spOr_q, spOr_A, spOr_pre, spOr_post]
  repeat' (first | apply And.intro | (intro _) | omega | assumption | with_reducible rfl)
  all_goals try (refine drawI (VE.Plan.first 0 (VE.Plan.first 1 (VE.Plan.first 2 (VE.Plan.first 3 (VE.Plan.first 5 (VE.Plan.first 6 (VE.Plan.first 7 (VE.Plan.first 8 (VE.Plan.alt 4 (VE.Plan.alt 9 (VE.Plan.alt 10 (VE.Plan.alt 11 (VE.Plan.alt 12 VE.Plan.nil VE.Plan.nil) VE.Plan.nil) VE.Plan.nil) VE.Plan.nil) VE.Plan.nil))))))))) (by decide +kernel) ?_; simp (config := { maxSteps := 1000000 }) only [go_sem, ↓ifP_true, ↓ifP_false, ↓ifP_not, Nat.reduceLT, Nat.reduceAdd, Nat.reduceBEq, Nat.reduceSub, Nat.reduceLeDiff, Nat.reduceEqDiff, Nat.reduceMul, Int.reduceToNat, Int.reduceEq, Int.reduceLT, Int.reduceLE, Int.reduceAdd, Int.reduceSub, Int.reduceMul, reduceCtorEq, cond_true, cond_false, forall_eq', forall_eq, forall_const, implies_true, if_true, if_false, exists_eq_left', exists_eq', exists_eq, ne_eq, planW, stepW, Try.f56, tb56_58, tb56_57, spCfC_q, spCfC_A, spCfC_pre, spCfC_post, spCmp_q, spCmp_A, spCmp_pre, spCmp_post, spOr_q, spOr_A, spOr_pre, spOr_post]; repeat' (first | apply And.intro | (intro _) | omega | assumption | with_reducible rfl))
  all_goals (first | ((rw [orI_2]; rfl); done) | (skip; done))
theorem sat_impl_crosses_1 : Sat Try.prog rt0 56 (wkIn spCfC) := sat_in sat_impl_crosses_1_0
theorem cmpLays : ∀ blk off size w, Go.Proofs.CmpLays Try.prog 56 #[] encCr 2 cfC blk off size w := by
  refine cmpLays_of (rt := rt0) sat_impl_crosses_1_0 encCr 2 cfC (fun x v hv => ?_) (fun x y => ?_) (fun x y r bs h => ?_) (Nat.zero_le _)
  · simp only [encCr, List.mem_cons, List.not_mem_nil, or_false] at hv
    rcases hv with rfl | rfl <;> rfl
  · show [] = [] ∧ famPre d_cr_cr spCfC_A spCfC_pre _
    exact ⟨rfl, ⟨rfl, by simp [spCfC_pre]⟩⟩
  · exact And.left (show r = I (cfC x y) ∧ bs = [] from h)
end Go.Proofs.Ytcejoknapbhloaa
end
section
set_option maxRecDepth 100000
set_option linter.unusedSimpArgs false
set_option linter.unusedVariables false
namespace Go.Proofs.Ytcejoknapbhloaa
open Go Go.VE
theorem sat_slices_SortFunc_impl_Cross_impl_Cross_0 : Sat Try.prog rt0 55 spSrt := by
  refine sat_sort (ρ := sortC_ren) sortC ttok (te := ⟨.struct [(3, 0, 1), (3, 1, 1)], 2, 16, [.int .i64 0, .int .i64 0], true⟩) rfl Try.isAgg30 encCr (fun _ => rfl) (fun x v hv => ?_) (fun s x v hv => ?_) cfC cfC_swo cfC_tot (g := 56) (enters_of Try.func56 (by kernel_rfl) rfl) cmpLays (sp := spSrt) rfl rfl fun a i h => ?_
  · simp only [encCr, List.mem_cons, List.not_mem_nil, or_false] at hv
    rcases hv with rfl | rfl <;> rfl
  · simp only [encCr, List.mem_cons, List.not_mem_nil, or_false] at hv
    rcases hv with rfl | rfl <;> rfl
  · obtain ⟨l, rfl, rfl, hl, hd⟩ := famPreM_ex h
    refine ⟨l, hl, rfl, rfl, ?_⟩
    have e : (fun x y => !(Go.Proofs.ltOf cfC) y x) = leC := funext fun x => funext fun y => by rw [cfC_lt]; rfl
    show famPostM spSrt_d spSrt_post _ _ _ _
    unfold famPostM
    rw [hd]
    exact ⟨rfl, by rw [e]; rfl⟩
theorem sat_slices_SortFunc_impl_Cross_impl_Cross : Sat Try.prog rt0 55 (wkIn spSrt) := sat_in sat_slices_SortFunc_impl_Cross_impl_Cross_0
end Go.Proofs.Ytcejoknapbhloaa
end
section
set_option maxRecDepth 100000
set_option linter.unusedSimpArgs false
set_option linter.unusedVariables false
namespace Go.Proofs.Ytcejoknapbhloaa
open Go Go.VE
def spClipX_A : List Cross → List AV := fun l => [.c (.own 0 l.length false)]
def spClipX_B : List Cross → List Box := fun l => [⟨l.map crC, 2, 30, true, false⟩]
def spClipX_d : List AV → List Box → Option (List Cross)
  | [.c (.own 0 _ false)], [⟨es, _, _, _, _⟩] => decAll crCd es
  | _, _ => none
def spClipX_pre : List Cross → Prop := fun l => l.length ≤ 1000000000
def spClipX_post : List Cross → AV → List Box → Prop := fun l r bs => r = .c (.own 0 (l).length false) ∧ bs = [⟨(l).map crC, 2, 30, true, false⟩]
def spClipX : VE.Spec := famSpecM spClipX_A spClipX_B spClipX_d spClipX_pre spClipX_post 0 false [true] false
theorem spClipX_q : spClipX.flat = false ∧ spClipX.mt = [true] ∧ spClipX.shut = false ∧ spClipX.cost = 0 ∧ (∀ a i, spClipX.pre a i = (famPreM spClipX_d spClipX_A spClipX_B spClipX_pre a i)) ∧ ∀ a i r b, spClipX.post a i r b = (famPostM spClipX_d spClipX_post a i r b) := ⟨rfl, rfl, rfl, rfl, fun _ _ => rfl, fun _ _ _ _ => rfl⟩
def tb59 : Nat → Option VE.Spec := tabOf []
theorem tb59_ok : TabOK Try.prog rt0 tb59 := tabOf_nil
set_option maxHeartbeats 4000000 in
theorem sat_slices_Clip_impl_Cross_impl_Cross_0 : Sat Try.prog rt0 59 (wkOut spClipX) := by
  refine fn_sat hm ttok (tab := tb59) tb59_ok Try.func59 (c := Try.f59.body.getD .skip) (by kernel_rfl) (ts := [.tmp 2]) (by kernel_rfl) Try.ntmps59 (sq := fun _ => true) (by kernel_rfl) ?_
  intro args ins pk hpre0 hpk
  obtain ⟨l, rfl, rfl, hpre, hdec⟩ := famPreM_ex hpre0
  clear hpre0 hdec
  try simp only [spClipX_pre] at hpre
  replace hpk : pk + 0 ≤ pickLimit := hpk
  refine ⟨Nat.le_of_ble_eq_true rfl, ?_⟩
  simp (config := { maxSteps := 1000000 }) only [go_sem, ↓ifP_true, ↓ifP_false, ↓ifP_not, Nat.reduceLT, Nat.reduceAdd, Nat.reduceBEq, Nat.reduceSub, Nat.reduceLeDiff, Nat.reduceEqDiff, Nat.reduceMul, Int.reduceToNat, Int.reduceEq, Int.reduceLT, Int.reduceLE, Int.reduceAdd, Int.reduceSub, Int.reduceMul, reduceCtorEq, cond_true, cond_false, forall_eq', forall_eq, forall_const, implies_true, if_true, if_false, exists_eq_left', exists_eq', exists_eq, ne_eq, Try.f59, spClipX_q, spClipX_A, spClipX_B, spClipX_d, spClipX_pre, spClipX_post]
  repeat' (first | apply And.intro | (intro _) | omega | assumption | with_reducible rfl)
  all_goals (first | (omega; done))
theorem sat_slices_Clip_impl_Cross_impl_Cross : Sat Try.prog rt0 59 (wkIn spClipX) := sat_in (sat_out sat_slices_Clip_impl_Cross_impl_Cross_0)
def spCrsI_A : (List (List Pt)) × Int → List AV
  | (L, w) => [.c (.sl false (L.map lptC)), I w]
def spCrsI_pre : (List (List Pt)) × Int → Prop
  | (L, w) => vRings L = true ∧ 0 ≤ w ∧ w ≤ 47
def spCrsI_post : (List (List Pt)) × Int → AV → List Box → Prop
  | (L, w), r, bs => r = .c (.sl false (((crS L (2 + 4 * w))).map crC)) ∧ bs = []
def spCrsI : VE.Spec := famSpecS spCrsI_A d_llpt_i spCrsI_pre spCrsI_post 0 false
theorem spCrsI_q : spCrsI.flat = false ∧ spCrsI.mt = [] ∧ spCrsI.shut = true ∧ spCrsI.cost = 0 ∧ (∀ a i, spCrsI.pre a i = (i = [] ∧ famPre d_llpt_i spCrsI_A spCrsI_pre a)) ∧ ∀ a i r b, spCrsI.post a i r b = (famPost d_llpt_i spCrsI_post a r b) := ⟨rfl, rfl, rfl, rfl, fun _ _ => rfl, fun _ _ _ _ => rfl⟩
theorem cro_st {es : List Edge} {o : List Cross} {i y : Int} {e : Edge} (h : o = crOf (es.take i.toNat) y) (h0 : 0 ≤ i) (hk : es[i.toNat]? = some e) (hs : stepE e y = 0) : o = crOf (es.take (i + 1).toNat) y := by
  rw [takeN hk h0, crOf_app, crOf_no hs, List.append_nil, h]
theorem cro_st2 {es : List Edge} {o : List Cross} {i y n : Int} {e : Edge} (h : o = crOf (es.take i.toNat) y) (h0 : 0 ≤ i) (hk : es[i.toNat]? = some e) (hs : ¬ stepE e y = 0) (hn : firstS e y = n) : o ++ [⟨n, stepE e y⟩] = crOf (es.take (i + 1).toNat) y := by
  rw [takeN hk h0, crOf_app, crOf_yes hs, h, hn]
theorem cro_ln {es : List Edge} {o : List Cross} {i : Nat} {y : Int} (h : o = crOf (es.take i) y) : o.length ≤ es.length := by
  rw [h]; exact Nat.le_trans (crOf_len _ _) (by rw [List.length_take]; omega)
def tb30 : Nat → Option VE.Spec := tabOf [(51, wkIn spSamp), (52, wkIn spEdges), (53, wkIn spStep), (54, wkIn spLeft), (55, spSrt), (59, wkIn spClipX)]
theorem tb30_51 : tb30 51 = some (wkIn spSamp) := rfl
theorem tb30_52 : tb30 52 = some (wkIn spEdges) := rfl
theorem tb30_53 : tb30 53 = some (wkIn spStep) := rfl
theorem tb30_54 : tb30 54 = some (wkIn spLeft) := rfl
theorem tb30_55 : tb30 55 = some (spSrt) := rfl
theorem tb30_59 : tb30 59 = some (wkIn spClipX) := rfl
theorem tb30_ok : TabOK Try.prog rt0 tb30 := (tabOf_cons (by kernel_rfl) sat_impl_sampleAt (tabOf_cons (by kernel_rfl) sat_impl_edges (tabOf_cons (by kernel_rfl) sat_impl_Edge_step (tabOf_cons (by kernel_rfl) sat_impl_Edge_left (tabOf_cons (by kernel_rfl) sat_slices_SortFunc_impl_Cross_impl_Cross_0 (tabOf_cons (by kernel_rfl) sat_slices_Clip_impl_Cross_impl_Cross tabOf_nil))))))
set_option maxHeartbeats 4000000 in
theorem sat_impl_crosses_0 : Sat Try.prog rt0 30 (wkOut spCrsI) := by
  refine fn_sat hm ttok (tab := tb30) tb30_ok Try.func30 (c := Try.f30.body.getD .skip) (by kernel_rfl) (ts := [.tmp 4]) (by kernel_rfl) Try.ntmps30 (sq := fun id => !(id == 9)) (by kernel_rfl) ?_
  intro args ins pk hpre0 hpk
  obtain ⟨rfl, hpre0⟩ := hpre0
  obtain ⟨⟨L, w⟩, rfl, hpre, hdec⟩ := famPre_ex hpre0
  clear hpre0 hdec
  try simp only [spCrsI_pre] at hpre
  replace hpk : pk + 0 ≤ pickLimit := hpk
  refine ⟨Nat.le_of_ble_eq_true rfl, ?_⟩
  simp (config := { maxSteps := 1000000 }) only [go_sem, ↓ifP_true, ↓ifP_false, ↓ifP_not, Nat.reduceLT, Nat.reduceAdd, Nat.reduceBEq, Nat.reduceSub, Nat.reduceLeDiff, Nat.reduceEqDiff, Nat.reduceMul, Int.reduceToNat, Int.reduceEq, Int.reduceLT, Int.reduceLE, Int.reduceAdd, Int.reduceSub, Int.reduceMul, reduceCtorEq, cond_true, cond_false, forall_eq', forall_eq, forall_const, implies_true, if_true, if_false, exists_eq_left', exists_eq', exists_eq, ne_eq, Try.f30, tb30_51, tb30_52, tb30_53, tb30_54, tb30_55, tb30_59, spCrsI_q, spCrsI_A, spCrsI_pre, spCrsI_post, spSamp_q, spSamp_A, spSamp_pre, spSamp_post, spEdges_q, spEdges_A, spEdges_pre, spEdges_post, spStep_q, spStep_A, spStep_pre, spStep_post, spLeft_q, spLeft_A, spLeft_pre, spLeft_post, spSrt_q, spSrt_A, spSrt_B, spSrt_d, spSrt_pre, spSrt_post, spClipX_q, spClipX_A, spClipX_B, spClipX_d, spClipX_pre, spClipX_post]
  repeat' (first | apply And.intro | (intro _) | omega | assumption | with_reducible rfl)
  all_goals try (refine drawI (VE.Plan.first 0 (VE.Plan.first 1 (VE.Plan.first 2 (VE.Plan.first 3 (VE.Plan.first 4 (VE.Plan.first 6 (VE.Plan.alt 5 (VE.Plan.alt 7 (VE.Plan.first 8 (VE.Plan.first 9 VE.Plan.nil)) VE.Plan.nil) VE.Plan.nil))))))) (by decide +kernel) ?_; simp (config := { maxSteps := 1000000 }) only [go_sem, ↓ifP_true, ↓ifP_false, ↓ifP_not, Nat.reduceLT, Nat.reduceAdd, Nat.reduceBEq, Nat.reduceSub, Nat.reduceLeDiff, Nat.reduceEqDiff, Nat.reduceMul, Int.reduceToNat, Int.reduceEq, Int.reduceLT, Int.reduceLE, Int.reduceAdd, Int.reduceSub, Int.reduceMul, reduceCtorEq, cond_true, cond_false, forall_eq', forall_eq, forall_const, implies_true, if_true, if_false, exists_eq_left', exists_eq', exists_eq, ne_eq, planW, stepW, Try.f30, tb30_51, tb30_52, tb30_53, tb30_54, tb30_55, tb30_59, spCrsI_q, spCrsI_A, spCrsI_pre, spCrsI_post, spSamp_q, spSamp_A, spSamp_pre, spSamp_post, spEdges_q, spEdges_A, spEdges_pre, spEdges_post, spStep_q, spStep_A, spStep_pre, spStep_post, spLeft_q, spLeft_A, spLeft_pre, spLeft_post, spSrt_q, spSrt_A, spSrt_B, spSrt_d, spSrt_pre, spSrt_post, spClipX_q, spClipX_A, spClipX_B, spClipX_d, spClipX_pre, spClipX_post]; repeat' (first | apply And.intro | (intro _) | omega | assumption | with_reducible rfl))
  any_goals
    refine loopS (α := (List Cross) × Int) false [0, 1, 2, 3, 5, 7, 8, 9, 10, 11, 12, 13, 16, 17, 18, 19, 20, 21, 22, 23, 24, 25, 26, 27, 28, 29, 30, 31, 32, 33, 34, 35, 36, 37, 38, 39, 40, 41, 42, 43, 45] (fun σ => [gId (σ.get 5)]) (fun σ x => [(5, .c (.own (gId (σ.get 5)) (x.1).length false)), (16, I x.2)]) (fun σ x => [(gId (σ.get 5), some ⟨(x.1).map crC, 2, 30, true, false⟩)]) (fun (o, i) => 0) (fun σ => (gL crCd σ (σ.get 5), gI (σ.get 16))) (fun σ τ => [(gId (σ.get 5), gId (τ.get 5))]) (fun (o, i) => (0 ≤ i ∧ i ≤ (edgesOf L).length) ∧ o = crOf ((edgesOf L).take i.toNat) (2 + 4 * w)) (fun (o, i) => ((edgesOf L).length - i).toNat) ⟨by (simp (config := { maxSteps := 1000000 }) only [go_sem, ↓ifP_true, ↓ifP_false, ↓ifP_not, Nat.reduceLT, Nat.reduceAdd, Nat.reduceBEq, Nat.reduceSub, Nat.reduceLeDiff, Nat.reduceEqDiff, Nat.reduceMul, Int.reduceToNat, Int.reduceEq, Int.reduceLT, Int.reduceLE, Int.reduceAdd, Int.reduceSub, Int.reduceMul, reduceCtorEq, cond_true, cond_false, forall_eq', forall_eq, forall_const, implies_true, if_true, if_false, exists_eq_left', exists_eq', exists_eq, ne_eq, Try.f30, tb30_51, tb30_52, tb30_53, tb30_54, tb30_55, tb30_59, spCrsI_q, spCrsI_A, spCrsI_pre, spCrsI_post, spSamp_q, spSamp_A, spSamp_pre, spSamp_post, spEdges_q, spEdges_A, spEdges_pre, spEdges_post, spStep_q, spStep_A, spStep_pre, spStep_post, spLeft_q, spLeft_A, spLeft_pre, spLeft_post, spSrt_q, spSrt_A, spSrt_B, spSrt_d, spSrt_pre, spSrt_post, spClipX_q, spClipX_A, spClipX_B, spClipX_d, spClipX_pre, spClipX_post]; (repeat' (first | apply And.intro | (intro _) | omega | assumption | with_reducible rfl)); all_goals (first | rfl)), ?_⟩
    rintro ⟨o, i⟩ hinv
    try dsimp only at hinv
    rcases elemAt (edgesOf L) i (by omega) with ⟨hlt, e, hk⟩ | hlt
    all_goals (first | ((have hlt2 := of_eq_true hlt); (have hE := edge_at hpre.1 hk); (have hl := edges_len hpre.1); (have hol := cro_ln hinv.2); (have hs := stepE_bd e (2 + 4 * w)); all_goals simp (config := { maxSteps := 1000000 }) only [go_sem, ↓ifP_true, ↓ifP_false, ↓ifP_not, Nat.reduceLT, Nat.reduceAdd, Nat.reduceBEq, Nat.reduceSub, Nat.reduceLeDiff, Nat.reduceEqDiff, Nat.reduceMul, Int.reduceToNat, Int.reduceEq, Int.reduceLT, Int.reduceLE, Int.reduceAdd, Int.reduceSub, Int.reduceMul, reduceCtorEq, cond_true, cond_false, forall_eq', forall_eq, forall_const, implies_true, if_true, if_false, exists_eq_left', exists_eq', exists_eq, ne_eq, Try.f30, tb30_51, tb30_52, tb30_53, tb30_54, tb30_55, tb30_59, spCrsI_q, spCrsI_A, spCrsI_pre, spCrsI_post, spSamp_q, spSamp_A, spSamp_pre, spSamp_post, spEdges_q, spEdges_A, spEdges_pre, spEdges_post, spStep_q, spStep_A, spStep_pre, spStep_post, spLeft_q, spLeft_A, spLeft_pre, spLeft_post, spSrt_q, spSrt_A, spSrt_B, spSrt_d, spSrt_pre, spSrt_post, spClipX_q, spClipX_A, spClipX_B, spClipX_d, spClipX_pre, spClipX_post, hlt, hk]) | (have hlt2 := of_eq_false hlt; simp (config := { maxSteps := 1000000 }) only [go_sem, ↓ifP_true, ↓ifP_false, ↓ifP_not, Nat.reduceLT, Nat.reduceAdd, Nat.reduceBEq, Nat.reduceSub, Nat.reduceLeDiff, Nat.reduceEqDiff, Nat.reduceMul, Int.reduceToNat, Int.reduceEq, Int.reduceLT, Int.reduceLE, Int.reduceAdd, Int.reduceSub, Int.reduceMul, reduceCtorEq, cond_true, cond_false, forall_eq', forall_eq, forall_const, implies_true, if_true, if_false, exists_eq_left', exists_eq', exists_eq, ne_eq, Try.f30, tb30_51, tb30_52, tb30_53, tb30_54, tb30_55, tb30_59, spCrsI_q, spCrsI_A, spCrsI_pre, spCrsI_post, spSamp_q, spSamp_A, spSamp_pre, spSamp_post, spEdges_q, spEdges_A, spEdges_pre, spEdges_post, spStep_q, spStep_A, spStep_pre, spStep_post, spLeft_q, spLeft_A, spLeft_pre, spLeft_post, spSrt_q, spSrt_A, spSrt_B, spSrt_d, spSrt_pre, spSrt_post, spClipX_q, spClipX_A, spClipX_B, spClipX_d, spClipX_pre, spClipX_post, hlt]))
    all_goals
      repeat' (first | apply And.intro | (intro _) | omega | assumption | with_reducible rfl)
    all_goals try (refine drawI (VE.Plan.first 0 (VE.Plan.first 1 (VE.Plan.first 2 (VE.Plan.first 3 (VE.Plan.first 4 (VE.Plan.first 6 (VE.Plan.alt 5 (VE.Plan.alt 7 (VE.Plan.first 8 (VE.Plan.first 9 VE.Plan.nil)) VE.Plan.nil) VE.Plan.nil))))))) (by decide +kernel) ?_; (first | simp (config := { maxSteps := 1000000 }) only [go_sem, ↓ifP_true, ↓ifP_false, ↓ifP_not, Nat.reduceLT, Nat.reduceAdd, Nat.reduceBEq, Nat.reduceSub, Nat.reduceLeDiff, Nat.reduceEqDiff, Nat.reduceMul, Int.reduceToNat, Int.reduceEq, Int.reduceLT, Int.reduceLE, Int.reduceAdd, Int.reduceSub, Int.reduceMul, reduceCtorEq, cond_true, cond_false, forall_eq', forall_eq, forall_const, implies_true, if_true, if_false, exists_eq_left', exists_eq', exists_eq, ne_eq, planW, stepW, Try.f30, tb30_51, tb30_52, tb30_53, tb30_54, tb30_55, tb30_59, spCrsI_q, spCrsI_A, spCrsI_pre, spCrsI_post, spSamp_q, spSamp_A, spSamp_pre, spSamp_post, spEdges_q, spEdges_A, spEdges_pre, spEdges_post, spStep_q, spStep_A, spStep_pre, spStep_post, spLeft_q, spLeft_A, spLeft_pre, spLeft_post, spSrt_q, spSrt_A, spSrt_B, spSrt_d, spSrt_pre, spSrt_post, spClipX_q, spClipX_A, spClipX_B, spClipX_d, spClipX_pre, spClipX_post, hlt, hk] | simp (config := { maxSteps := 1000000 }) only [go_sem, ↓ifP_true, ↓ifP_false, ↓ifP_not, Nat.reduceLT, Nat.reduceAdd, Nat.reduceBEq, Nat.reduceSub, Nat.reduceLeDiff, Nat.reduceEqDiff, Nat.reduceMul, Int.reduceToNat, Int.reduceEq, Int.reduceLT, Int.reduceLE, Int.reduceAdd, Int.reduceSub, Int.reduceMul, reduceCtorEq, cond_true, cond_false, forall_eq', forall_eq, forall_const, implies_true, if_true, if_false, exists_eq_left', exists_eq', exists_eq, ne_eq, planW, stepW, Try.f30, tb30_51, tb30_52, tb30_53, tb30_54, tb30_55, tb30_59, spCrsI_q, spCrsI_A, spCrsI_pre, spCrsI_post, spSamp_q, spSamp_A, spSamp_pre, spSamp_post, spEdges_q, spEdges_A, spEdges_pre, spEdges_post, spStep_q, spStep_A, spStep_pre, spStep_post, spLeft_q, spLeft_A, spLeft_pre, spLeft_post, spSrt_q, spSrt_A, spSrt_B, spSrt_d, spSrt_pre, spSrt_post, spClipX_q, spClipX_A, spClipX_B, spClipX_d, spClipX_pre, spClipX_post]); repeat' (first | apply And.intro | (intro _) | omega | assumption | with_reducible rfl))
  
  any_goals
    have hk0 := hk
    have hlt0 := hlt
    have hI := hinv
    refine loopS (α := Int) false [0, 1, 2, 3, 7, 10, 11, 12, 13, 17, 18, 19, 20, 21, 22, 23, 24, 25, 26, 27, 28, 29, 30, 31, 32, 33, 34, 35, 36, 45] (fun σ => []) (fun σ x => [(10, I x)]) (fun σ x => []) (fun m => 0) (fun σ => gI (σ.get 10)) (fun σ τ => []) (fun m => (0 ≤ m ∧ m ≤ 48) ∧ noL e (2 + 4 * w) m.toNat = true) (fun m => (48 - m).toNat) ⟨by (simp (config := { maxSteps := 1000000 }) only [go_sem, ↓ifP_true, ↓ifP_false, ↓ifP_not, Nat.reduceLT, Nat.reduceAdd, Nat.reduceBEq, Nat.reduceSub, Nat.reduceLeDiff, Nat.reduceEqDiff, Nat.reduceMul, Int.reduceToNat, Int.reduceEq, Int.reduceLT, Int.reduceLE, Int.reduceAdd, Int.reduceSub, Int.reduceMul, reduceCtorEq, cond_true, cond_false, forall_eq', forall_eq, forall_const, implies_true, if_true, if_false, exists_eq_left', exists_eq', exists_eq, ne_eq, Try.f30, tb30_51, tb30_52, tb30_53, tb30_54, tb30_55, tb30_59, spCrsI_q, spCrsI_A, spCrsI_pre, spCrsI_post, spSamp_q, spSamp_A, spSamp_pre, spSamp_post, spEdges_q, spEdges_A, spEdges_pre, spEdges_post, spStep_q, spStep_A, spStep_pre, spStep_post, spLeft_q, spLeft_A, spLeft_pre, spLeft_post, spSrt_q, spSrt_A, spSrt_B, spSrt_d, spSrt_pre, spSrt_post, spClipX_q, spClipX_A, spClipX_B, spClipX_d, spClipX_pre, spClipX_post, hlt0, hk0]; (repeat' (first | apply And.intro | (intro _) | omega | assumption | with_reducible rfl)); all_goals (first | rfl)), ?_⟩
    rintro m hinv
    try dsimp only at hinv
    simp (config := { maxSteps := 1000000 }) only [go_sem, ↓ifP_true, ↓ifP_false, ↓ifP_not, Nat.reduceLT, Nat.reduceAdd, Nat.reduceBEq, Nat.reduceSub, Nat.reduceLeDiff, Nat.reduceEqDiff, Nat.reduceMul, Int.reduceToNat, Int.reduceEq, Int.reduceLT, Int.reduceLE, Int.reduceAdd, Int.reduceSub, Int.reduceMul, reduceCtorEq, cond_true, cond_false, forall_eq', forall_eq, forall_const, implies_true, if_true, if_false, exists_eq_left', exists_eq', exists_eq, ne_eq, Try.f30, tb30_51, tb30_52, tb30_53, tb30_54, tb30_55, tb30_59, spCrsI_q, spCrsI_A, spCrsI_pre, spCrsI_post, spSamp_q, spSamp_A, spSamp_pre, spSamp_post, spEdges_q, spEdges_A, spEdges_pre, spEdges_post, spStep_q, spStep_A, spStep_pre, spStep_post, spLeft_q, spLeft_A, spLeft_pre, spLeft_post, spSrt_q, spSrt_A, spSrt_B, spSrt_d, spSrt_pre, spSrt_post, spClipX_q, spClipX_A, spClipX_B, spClipX_d, spClipX_pre, spClipX_post, hlt0, hk0]
    repeat' (first | apply And.intro | (intro _) | omega | assumption | with_reducible rfl)
    all_goals try (refine drawI (VE.Plan.first 0 (VE.Plan.first 1 (VE.Plan.first 2 (VE.Plan.first 3 (VE.Plan.first 4 (VE.Plan.first 6 (VE.Plan.alt 5 (VE.Plan.alt 7 (VE.Plan.first 8 (VE.Plan.first 9 VE.Plan.nil)) VE.Plan.nil) VE.Plan.nil))))))) (by decide +kernel) ?_; simp (config := { maxSteps := 1000000 }) only [go_sem, ↓ifP_true, ↓ifP_false, ↓ifP_not, Nat.reduceLT, Nat.reduceAdd, Nat.reduceBEq, Nat.reduceSub, Nat.reduceLeDiff, Nat.reduceEqDiff, Nat.reduceMul, Int.reduceToNat, Int.reduceEq, Int.reduceLT, Int.reduceLE, Int.reduceAdd, Int.reduceSub, Int.reduceMul, reduceCtorEq, cond_true, cond_false, forall_eq', forall_eq, forall_const, implies_true, if_true, if_false, exists_eq_left', exists_eq', exists_eq, ne_eq, planW, stepW, Try.f30, tb30_51, tb30_52, tb30_53, tb30_54, tb30_55, tb30_59, spCrsI_q, spCrsI_A, spCrsI_pre, spCrsI_post, spSamp_q, spSamp_A, spSamp_pre, spSamp_post, spEdges_q, spEdges_A, spEdges_pre, spEdges_post, spStep_q, spStep_A, spStep_pre, spStep_post, spLeft_q, spLeft_A, spLeft_pre, spLeft_post, spSrt_q, spSrt_A, spSrt_B, spSrt_d, spSrt_pre, spSrt_post, spClipX_q, spClipX_A, spClipX_B, spClipX_d, spClipX_pre, spClipX_post]; repeat' (first | apply And.intro | (intro _) | omega | assumption | with_reducible rfl))
  all_goals (first | ((have := (vRings_len hpre.1).1; omega); done) | ((have := (vRings_len hpre.1).2; omega); done) | (exact cro_st hinv.2 hinv.1.1 hk ‹_›; done) | (exact hE.1; done) | (exact hE.2; done) | (exact cro_st2 hI.2 hI.1.1 hk0 ‹_› (firstS_fin hinv.1.1 hinv.1.2 hinv.2 (.inl (by omega))); done) | (exact cro_st2 hI.2 hI.1.1 hk0 ‹_› (firstS_fin hinv.1.1 hinv.1.2 hinv.2 (.inr ‹_›)); done) | (exact noL_step hinv.1.1 hinv.2 ‹_›; done) | ((have h1 := cro_ln hinv.2; have h2 := edges_len hpre.1; omega); done) | (exact (srt_len _).symm; done) | ((rw [srt_len]; have h1 := cro_ln hinv.2; have h2 := edges_len hpre.1; omega); done) | ((rw [hinv.2, List.take_of_length_le (by omega)]; rfl); done) | (skip; done))
theorem sat_impl_crosses : Sat Try.prog rt0 30 (wkIn spCrsI) := sat_in (sat_out sat_impl_crosses_0)
end Go.Proofs.Ytcejoknapbhloaa
end
section
set_option maxRecDepth 100000
set_option linter.unusedSimpArgs false
set_option linter.unusedVariables false
namespace Go.Proofs.Ytcejoknapbhloaa
open Go Go.VE
def spIsRow_A : Int → List AV
  | w => [I w]
def spIsRow_pre : Int → Prop
  | w => True
def spIsRow_post : Int → AV → List Box → Prop
  | w, r, bs => r = B (decide (0 ≤ w ∧ w ≤ 47)) ∧ bs = []
def spIsRow : VE.Spec := famSpec spIsRow_A d_i spIsRow_pre spIsRow_post 0 true
theorem spIsRow_q : spIsRow.flat = true ∧ spIsRow.mt = [] ∧ spIsRow.shut = false ∧ spIsRow.cost = 0 ∧ (∀ a i, spIsRow.pre a i = (i = [] ∧ famPre d_i spIsRow_A spIsRow_pre a)) ∧ ∀ a i r b, spIsRow.post a i r b = (famPost d_i spIsRow_post a r b) := ⟨rfl, rfl, rfl, rfl, fun _ _ => rfl, fun _ _ _ _ => rfl⟩
def tb29 : Nat → Option VE.Spec := tabOf [(40, wkIn spIn)]
theorem tb29_40 : tb29 40 = some (wkIn spIn) := rfl
theorem tb29_ok : TabOK Try.prog rt0 tb29 := (tabOf_cons (by kernel_rfl) sat_impl_in tabOf_nil)
set_option maxHeartbeats 4000000 in
theorem sat_impl_isRow_0 : Sat Try.prog rt0 29 (wkOut spIsRow) := by
  refine fn_sat hm ttok (tab := tb29) tb29_ok Try.func29 (c := Try.f29.body.getD .skip) (by kernel_rfl) (ts := [.tmp 2]) (by kernel_rfl) Try.ntmps29 (sq := fun _ => true) (by kernel_rfl) ?_
  intro args ins pk hpre0 hpk
  obtain ⟨rfl, hpre0⟩ := hpre0
  obtain ⟨w, rfl, hpre, hdec⟩ := famPre_ex hpre0
  clear hpre0 hdec
  try simp only [spIsRow_pre] at hpre
  replace hpk : pk + 0 ≤ pickLimit := hpk
  refine ⟨Nat.le_of_ble_eq_true rfl, ?_⟩
  simp (config := { maxSteps := 1000000 }) only [go_sem, ↓ifP_true, ↓ifP_false, ↓ifP_not, Nat.reduceLT, Nat.reduceAdd, Nat.reduceBEq, Nat.reduceSub, Nat.reduceLeDiff, Nat.reduceEqDiff, Nat.reduceMul, Int.reduceToNat, Int.reduceEq, Int.reduceLT, Int.reduceLE, Int.reduceAdd, Int.reduceSub, Int.reduceMul, reduceCtorEq, cond_true, cond_false, forall_eq', forall_eq, forall_const, implies_true, if_true, if_false, exists_eq_left', exists_eq', exists_eq, ne_eq, Try.f29, tb29_40, spIsRow_q, spIsRow_A, spIsRow_pre, spIsRow_post, spIn_q, spIn_A, spIn_pre, spIn_post]
  repeat' (first | apply And.intro | (intro _) | omega | assumption | with_reducible rfl)
  all_goals (first | (rfl; done) | (omega; done))
theorem sat_impl_isRow : Sat Try.prog rt0 29 (wkIn spIsRow) := sat_in (sat_out sat_impl_isRow_0)
def tb11 : Nat → Option VE.Spec := tabOf [(15, wkIn spVRings), (29, wkIn spIsRow), (30, wkIn spCrsI)]
theorem tb11_15 : tb11 15 = some (wkIn spVRings) := rfl
theorem tb11_29 : tb11 29 = some (wkIn spIsRow) := rfl
theorem tb11_30 : tb11 30 = some (wkIn spCrsI) := rfl
theorem tb11_ok : TabOK Try.prog rt0 tb11 := (tabOf_cons (by kernel_rfl) sat_impl_ValidRings (tabOf_cons (by kernel_rfl) sat_impl_isRow (tabOf_cons (by kernel_rfl) sat_impl_crosses tabOf_nil)))
set_option maxHeartbeats 4000000 in
theorem sat_impl_CrossesOf_0 : Sat Try.prog rt0 11 (wkOut spCrsOf) := by
  refine fn_sat hm ttok (tab := tb11) tb11_ok Try.func11 (c := Try.f11.body.getD .skip) (by kernel_rfl) (ts := [.tmp 4]) (by kernel_rfl) Try.ntmps11 (sq := fun _ => true) (by kernel_rfl) ?_
  intro args ins pk hpre0 hpk
  obtain ⟨rfl, hpre0⟩ := hpre0
  obtain ⟨⟨L, w⟩, rfl, hpre, hdec⟩ := famPre_ex hpre0
  clear hpre0 hdec
  try simp only [spCrsOf_pre] at hpre
  replace hpk : pk + 0 ≤ pickLimit := hpk
  refine ⟨Nat.le_of_ble_eq_true rfl, ?_⟩
  simp (config := { maxSteps := 1000000 }) only [go_sem, ↓ifP_true, ↓ifP_false, ↓ifP_not, Nat.reduceLT, Nat.reduceAdd, Nat.reduceBEq, Nat.reduceSub, Nat.reduceLeDiff, Nat.reduceEqDiff, Nat.reduceMul, Int.reduceToNat, Int.reduceEq, Int.reduceLT, Int.reduceLE, Int.reduceAdd, Int.reduceSub, Int.reduceMul, reduceCtorEq, cond_true, cond_false, forall_eq', forall_eq, forall_const, implies_true, if_true, if_false, exists_eq_left', exists_eq', exists_eq, ne_eq, Try.f11, tb11_15, tb11_29, tb11_30, spCrsOf_q, spCrsOf_A, spCrsOf_pre, spCrsOf_post, spVRings_q, spVRings_A, spVRings_pre, spVRings_post, spIsRow_q, spIsRow_A, spIsRow_pre, spIsRow_post, spCrsI_q, spCrsI_A, spCrsI_pre, spCrsI_post]
  repeat' (first | apply And.intro | (intro _) | omega | assumption | with_reducible rfl)
  all_goals (first | (omega; done) | ((rw [crV_yes ‹_› ‹_›]); done) | ((rw [crV_yes ‹_› ⟨‹_›, ‹_›⟩]); done) | ((rw [crV_n1 ‹_›]; rfl); done) | ((rw [crV_n2 ‹_›]; rfl); done) | (exact (‹0 ≤ w ∧ w ≤ 47›).1; done) | (exact (‹0 ≤ w ∧ w ≤ 47›).2; done) | (skip; done))
theorem sat_impl_CrossesOf : Sat Try.prog rt0 11 (wkIn spCrsOf) := sat_in (sat_out sat_impl_CrossesOf_0)
end Go.Proofs.Ytcejoknapbhloaa
end
section
set_option maxRecDepth 100000
set_option linter.unusedSimpArgs false
set_option linter.unusedVariables false
namespace Go.Proofs.Ytcejoknapbhloaa
open Go Go.VE
def spClipS_A : List Span → List AV := fun l => [.c (.own 0 l.length false)]
def spClipS_B : List Span → List Box := fun l => [⟨l.map spC, 2, 45, true, false⟩]
def spClipS_d : List AV → List Box → Option (List Span)
  | [.c (.own 0 _ false)], [⟨es, _, _, _, _⟩] => decAll spCd es
  | _, _ => none
def spClipS_pre : List Span → Prop := fun l => l.length ≤ 1000000000
def spClipS_post : List Span → AV → List Box → Prop := fun l r bs => r = .c (.own 0 (l).length false) ∧ bs = [⟨(l).map spC, 2, 45, true, false⟩]
def spClipS : VE.Spec := famSpecM spClipS_A spClipS_B spClipS_d spClipS_pre spClipS_post 0 false [true] false
theorem spClipS_q : spClipS.flat = false ∧ spClipS.mt = [true] ∧ spClipS.shut = false ∧ spClipS.cost = 0 ∧ (∀ a i, spClipS.pre a i = (famPreM spClipS_d spClipS_A spClipS_B spClipS_pre a i)) ∧ ∀ a i r b, spClipS.post a i r b = (famPostM spClipS_d spClipS_post a i r b) := ⟨rfl, rfl, rfl, rfl, fun _ _ => rfl, fun _ _ _ _ => rfl⟩
def tb44 : Nat → Option VE.Spec := tabOf []
theorem tb44_ok : TabOK Try.prog rt0 tb44 := tabOf_nil
set_option maxHeartbeats 4000000 in
theorem sat_slices_Clip_impl_Span_impl_Span_0 : Sat Try.prog rt0 44 (wkOut spClipS) := by
  refine fn_sat hm ttok (tab := tb44) tb44_ok Try.func44 (c := Try.f44.body.getD .skip) (by kernel_rfl) (ts := [.tmp 2]) (by kernel_rfl) Try.ntmps44 (sq := fun _ => true) (by kernel_rfl) ?_
  intro args ins pk hpre0 hpk
  obtain ⟨l, rfl, rfl, hpre, hdec⟩ := famPreM_ex hpre0
  clear hpre0 hdec
  try simp only [spClipS_pre] at hpre
  replace hpk : pk + 0 ≤ pickLimit := hpk
  refine ⟨Nat.le_of_ble_eq_true rfl, ?_⟩
  simp (config := { maxSteps := 1000000 }) only [go_sem, ↓ifP_true, ↓ifP_false, ↓ifP_not, Nat.reduceLT, Nat.reduceAdd, Nat.reduceBEq, Nat.reduceSub, Nat.reduceLeDiff, Nat.reduceEqDiff, Nat.reduceMul, Int.reduceToNat, Int.reduceEq, Int.reduceLT, Int.reduceLE, Int.reduceAdd, Int.reduceSub, Int.reduceMul, reduceCtorEq, cond_true, cond_false, forall_eq', forall_eq, forall_const, implies_true, if_true, if_false, exists_eq_left', exists_eq', exists_eq, ne_eq, Try.f44, spClipS_q, spClipS_A, spClipS_B, spClipS_d, spClipS_pre, spClipS_post]
  repeat' (first | apply And.intro | (intro _) | omega | assumption | with_reducible rfl)
  all_goals (first | (omega; done))
theorem sat_slices_Clip_impl_Span_impl_Span : Sat Try.prog rt0 44 (wkIn spClipS) := sat_in (sat_out sat_slices_Clip_impl_Span_impl_Span_0)
theorem run_a {C rest : List Cross} {rl i n : Int} {o : List Span} (h0 : 0 ≤ i) (ho : o = runB (insC C rl) i.toNat) (hn : Spm C i rest n) (h : insN n rl = false) : o = runB (insC C rl) (i + 1).toNat := by
  rw [show (i + 1).toNat = i.toNat + 1 by omega, runB_no (by rw [insC, Int.toNat_of_nonneg h0, ← hn.steps]; exact h), ho]
theorem run_b {C rest : List Cross} {rl i n : Int} {o : List Span} {p : Span} (h0 : 0 ≤ i) (ho : o = runB (insC C rl) i.toNat) (hn : Spm C i rest n) (h : insN n rl = true) (hp : o[((o.length : Int) - 1).toNat]? = some p) (ht : p.t = i) : o.set ((o.length : Int) - 1).toNat ⟨p.f, p.t + 1⟩ = runB (insC C rl) (i + 1).toNat := by
  have hl := (List.getElem?_eq_some_iff.1 hp).1
  have hg : o.getLast? = some p := by rw [List.getLast?_eq_getElem?, show o.length - 1 = ((o.length : Int) - 1).toNat by omega]; exact hp
  obtain ⟨q, hq⟩ := List.getLast?_eq_some_iff.1 hg
  have hf : insC C rl i.toNat = true := by rw [insC, Int.toNat_of_nonneg h0, ← hn.steps]; exact h
  have := runB_ext (f := insC C rl) (n := i.toNat) hf (by rw [← ho]; exact hq) (by omega)
  rw [show (i + 1).toNat = i.toNat + 1 by omega, this, hq]
  rw [show ((((q ++ [p]).length : Nat) : Int) - 1).toNat = q.length by simp]
  simp
theorem run_c {C rest : List Cross} {rl i n : Int} {o : List Span} (h0 : 0 ≤ i) (ho : o = runB (insC C rl) i.toNat) (hn : Spm C i rest n) (h : insN n rl = true) (hd : ¬ 0 < (o.length : Int) ∨ ∃ p, o[((o.length : Int) - 1).toNat]? = some p ∧ ¬ p.t = i) : o ++ [⟨i, i + 1⟩] = runB (insC C rl) (i + 1).toNat := by
  have hf : insC C rl i.toNat = true := by rw [insC, Int.toNat_of_nonneg h0, ← hn.steps]; exact h
  have := runB_new (f := insC C rl) (n := i.toNat) hf fun p hp ht => by
    rw [← ho] at hp
    rcases hd with hd | ⟨q, hq, hne⟩
    · have : o = [] := List.eq_nil_of_length_eq_zero (by omega)
      rw [this] at hp; cases hp
    · rw [List.getLast?_eq_getElem?] at hp
      have hl := (List.getElem?_eq_some_iff.1 hp).1
      rw [show o.length - 1 = ((o.length : Int) - 1).toNat by omega, hq] at hp
      cases hp
      omega
  rw [show (i + 1).toNat = i.toNat + 1 by omega, this, ← ho, Int.toNat_of_nonneg h0]
theorem spmA {C q : List Cross} {i m : Int} {k : Cross} (hO : OrdC C) (h : Spl C i q m) (hk : q[0]? = some k) (ha : ¬ k.a ≤ i) : Spm C i q m := h.fin hO (.inr ⟨k, hk, by omega⟩)
theorem spmB {C q : List Cross} {i m : Int} (hO : OrdC C) (h : Spl C i q m) (hk : ¬ 0 < (q.length : Int)) : Spm C i q m := h.fin hO (.inl (List.eq_nil_of_length_eq_zero (by omega)))
theorem spl_bd {L : List (List Pt)} {y i m : Int} {q : List Cross} (hv : vRings L = true) (h : Spl (crS L y) i q m) : -200 ≤ m ∧ m ≤ 200 := by
  have h1 := h.bd fun c hc => (crS_ok L y c hc).2
  have h2 := crS_200 hv y
  omega
theorem spl_at {L : List (List Pt)} {y i m : Int} {q : List Cross} {k : Cross} (h : Spl (crS L y) i q m) (hk : q[0]? = some k) : -1 ≤ k.s ∧ k.s ≤ 1 := (crS_ok L y k (h.mem k (List.mem_of_getElem? hk))).2
theorem spl_take2 {C q : List Cross} {i m : Int} {k k1 : Cross} (h : Spl C i q m) (ha : k1.a ≤ i) (hk1 : q[0]? = some k1) (hk : q[0]? = some k) : Spl C i (List.drop 1 (List.take q.length q)) (m + k.s) := by
  rw [hk] at hk1; cases hk1
  rw [List.take_length]; exact h.take hk ha
theorem run_at {f : Nat → Bool} {n j : Nat} {o : List Span} {k : Span} (h : o = runB f n) (hk : o[j]? = some k) : 0 ≤ k.f ∧ k.f < k.t ∧ k.t ≤ n := by
  have := (runB_mono (f := f) n).1 k (by rw [← h]; exact List.mem_of_getElem? hk)
  exact this
theorem set_sp {o : List Span} {j : Nat} {k k1 : Span} : (List.map spC o).set j [C.v (.int .i64 k.f), C.v (.int .i64 (k1.t + 1))] = List.map spC (o.set j ⟨k.f, k1.t + 1⟩) := by rw [List.map_set]; rfl
theorem run_b2 {C rest : List Cross} {rl i n : Int} {o : List Span} {p p1 p2 : Span} (ht : p2.t = i) (hp2 : o[((o.length : Int) - 1).toNat]? = some p2) (hp1 : o[((o.length : Int) - 1).toNat]? = some p1) (hp : o[((o.length : Int) - 1).toNat]? = some p) (h0 : 0 ≤ i) (ho : o = runB (insC C rl) i.toNat) (hn : Spm C i rest n) (h : insN n rl = true) : o.set ((o.length : Int) - 1).toNat ⟨p.f, p1.t + 1⟩ = runB (insC C rl) (i + 1).toNat := by
  rw [hp] at hp1 hp2; cases hp1; cases hp2
  exact run_b h0 ho hn h hp ht
theorem run_c1 {C rest : List Cross} {rl i n : Int} {o : List Span} {p : Span} (ht : ¬ p.t = i) (hp : o[((o.length : Int) - 1).toNat]? = some p) (h0 : 0 ≤ i) (ho : o = runB (insC C rl) i.toNat) (hn : Spm C i rest n) (h : insN n rl = true) : o ++ [⟨i, i + 1⟩] = runB (insC C rl) (i + 1).toNat := run_c h0 ho hn h (.inr ⟨p, hp, ht⟩)
theorem run_c0 {C rest : List Cross} {rl i n : Int} {o : List Span} (ht : ¬ 0 < (o.length : Int)) (h0 : 0 ≤ i) (ho : o = runB (insC C rl) i.toNat) (hn : Spm C i rest n) (h : insN n rl = true) : o ++ [⟨i, i + 1⟩] = runB (insC C rl) (i + 1).toNat := run_c h0 ho hn h (.inl ht)
theorem spm_next {C rest : List Cross} {i n : Int} (h : Spm C i rest n) : Spm C (i + 1 - 1) rest n := by rw [show i + 1 - 1 = i by omega]; exact h
theorem run_ln {C : List Cross} {rl : Int} {k : Nat} {o : List Span} (h : o = runB (insC C rl) k) : 2 * o.length ≤ k + 1 := by rw [h]; exact (runB_len k).1
def tb21 : Nat → Option VE.Spec := tabOf [(15, wkIn spVRings), (39, wkIn spRl), (29, wkIn spIsRow), (30, wkIn spCrsI), (43, wkIn spIns), (44, wkIn spClipS)]
theorem tb21_15 : tb21 15 = some (wkIn spVRings) := rfl
theorem tb21_39 : tb21 39 = some (wkIn spRl) := rfl
theorem tb21_29 : tb21 29 = some (wkIn spIsRow) := rfl
theorem tb21_30 : tb21 30 = some (wkIn spCrsI) := rfl
theorem tb21_43 : tb21 43 = some (wkIn spIns) := rfl
theorem tb21_44 : tb21 44 = some (wkIn spClipS) := rfl
theorem tb21_ok : TabOK Try.prog rt0 tb21 := (tabOf_cons (by kernel_rfl) sat_impl_ValidRings (tabOf_cons (by kernel_rfl) sat_impl_isRule (tabOf_cons (by kernel_rfl) sat_impl_isRow (tabOf_cons (by kernel_rfl) sat_impl_crosses (tabOf_cons (by kernel_rfl) sat_impl_inside (tabOf_cons (by kernel_rfl) sat_slices_Clip_impl_Span_impl_Span tabOf_nil))))))
set_option maxHeartbeats 4000000 in
theorem sat_impl_SpansOf_0 : Sat Try.prog rt0 21 (wkOut spSpV) := by
  refine fn_sat hm ttok (tab := tb21) tb21_ok Try.func21 (c := Try.f21.body.getD .skip) (by kernel_rfl) (ts := [.tmp 6]) (by kernel_rfl) Try.ntmps21 (sq := fun _ => true) (by kernel_rfl) ?_
  intro args ins pk hpre0 hpk
  obtain ⟨rfl, hpre0⟩ := hpre0
  obtain ⟨⟨L, rl, w⟩, rfl, hpre, hdec⟩ := famPre_ex hpre0
  clear hpre0 hdec
  try simp only [spSpV_pre] at hpre
  replace hpk : pk + 0 ≤ pickLimit := hpk
  refine ⟨Nat.le_of_ble_eq_true rfl, ?_⟩
  simp (config := { maxSteps := 1000000 }) only [go_sem, ↓ifP_true, ↓ifP_false, ↓ifP_not, Nat.reduceLT, Nat.reduceAdd, Nat.reduceBEq, Nat.reduceSub, Nat.reduceLeDiff, Nat.reduceEqDiff, Nat.reduceMul, Int.reduceToNat, Int.reduceEq, Int.reduceLT, Int.reduceLE, Int.reduceAdd, Int.reduceSub, Int.reduceMul, reduceCtorEq, cond_true, cond_false, forall_eq', forall_eq, forall_const, implies_true, if_true, if_false, exists_eq_left', exists_eq', exists_eq, ne_eq, Try.f21, tb21_15, tb21_39, tb21_29, tb21_30, tb21_43, tb21_44, spSpV_q, spSpV_A, spSpV_pre, spSpV_post, spVRings_q, spVRings_A, spVRings_pre, spVRings_post, spRl_q, spRl_A, spRl_pre, spRl_post, spIsRow_q, spIsRow_A, spIsRow_pre, spIsRow_post, spCrsI_q, spCrsI_A, spCrsI_pre, spCrsI_post, spIns_q, spIns_A, spIns_pre, spIns_post, spClipS_q, spClipS_A, spClipS_B, spClipS_d, spClipS_pre, spClipS_post]
  repeat' (first | apply And.intro | (intro _) | omega | assumption | with_reducible rfl)
  any_goals
    refine loopS (α := (List Span) × Int × (List Cross) × Int) false [0, 2, 3, 4, 5, 7, 8, 9, 10, 11, 12, 13, 14, 15, 16, 17, 18, 19, 20, 21, 22, 23, 24, 25, 26, 27, 28, 29, 30, 31, 32, 33, 34, 35, 36, 37, 38, 39, 40, 41, 42, 43, 44, 45, 46, 47, 48, 49, 50, 51, 52, 53, 54, 55, 56, 57, 58, 59, 60, 61, 62, 63, 64, 65, 66, 67, 68, 69, 70, 71, 72, 73, 74, 75, 76, 77, 78, 79, 80, 81, 82, 83, 84, 85, 86] (fun σ => [gId (σ.get 7)]) (fun σ x => [(7, .c (.own (gId (σ.get 7)) (x.1).length false)), (9, I x.2.1), (8, .c (.sl false (x.2.2.1.map crC))), (28, I x.2.2.2)]) (fun σ x => [(gId (σ.get 7), some ⟨(x.1).map spC, 2, 45, true, false⟩)]) (fun (o, n, c, i) => 0) (fun σ => (gL spCd σ (σ.get 7), gI (σ.get 9), gL crCd σ (σ.get 8), gI (σ.get 28))) (fun σ τ => [(gId (σ.get 7), gId (τ.get 7))]) (fun (o, n, c, i) => (0 ≤ i ∧ i ≤ 48) ∧ o = runB (insC (crS L (2 + 4 * w)) rl) i.toNat ∧ Spm (crS L (2 + 4 * w)) (i - 1) c n) (fun (o, n, c, i) => (48 - i).toNat) ⟨by (simp (config := { maxSteps := 1000000 }) only [go_sem, ↓ifP_true, ↓ifP_false, ↓ifP_not, Nat.reduceLT, Nat.reduceAdd, Nat.reduceBEq, Nat.reduceSub, Nat.reduceLeDiff, Nat.reduceEqDiff, Nat.reduceMul, Int.reduceToNat, Int.reduceEq, Int.reduceLT, Int.reduceLE, Int.reduceAdd, Int.reduceSub, Int.reduceMul, reduceCtorEq, cond_true, cond_false, forall_eq', forall_eq, forall_const, implies_true, if_true, if_false, exists_eq_left', exists_eq', exists_eq, ne_eq, Try.f21, tb21_15, tb21_39, tb21_29, tb21_30, tb21_43, tb21_44, spSpV_q, spSpV_A, spSpV_pre, spSpV_post, spVRings_q, spVRings_A, spVRings_pre, spVRings_post, spRl_q, spRl_A, spRl_pre, spRl_post, spIsRow_q, spIsRow_A, spIsRow_pre, spIsRow_post, spCrsI_q, spCrsI_A, spCrsI_pre, spCrsI_post, spIns_q, spIns_A, spIns_pre, spIns_post, spClipS_q, spClipS_A, spClipS_B, spClipS_d, spClipS_pre, spClipS_post]; (repeat' (first | apply And.intro | (intro _) | omega | assumption | with_reducible rfl)); all_goals (first | rfl | exact Spm.start _ fun x hx => ((crS_ok L _ x hx).1).1)), ?_⟩
    rintro ⟨o, n, c, i⟩ hinv
    try dsimp only at hinv
    simp (config := { maxSteps := 1000000 }) only [go_sem, ↓ifP_true, ↓ifP_false, ↓ifP_not, Nat.reduceLT, Nat.reduceAdd, Nat.reduceBEq, Nat.reduceSub, Nat.reduceLeDiff, Nat.reduceEqDiff, Nat.reduceMul, Int.reduceToNat, Int.reduceEq, Int.reduceLT, Int.reduceLE, Int.reduceAdd, Int.reduceSub, Int.reduceMul, reduceCtorEq, cond_true, cond_false, forall_eq', forall_eq, forall_const, implies_true, if_true, if_false, exists_eq_left', exists_eq', exists_eq, ne_eq, Try.f21, tb21_15, tb21_39, tb21_29, tb21_30, tb21_43, tb21_44, spSpV_q, spSpV_A, spSpV_pre, spSpV_post, spVRings_q, spVRings_A, spVRings_pre, spVRings_post, spRl_q, spRl_A, spRl_pre, spRl_post, spIsRow_q, spIsRow_A, spIsRow_pre, spIsRow_post, spCrsI_q, spCrsI_A, spCrsI_pre, spCrsI_post, spIns_q, spIns_A, spIns_pre, spIns_post, spClipS_q, spClipS_A, spClipS_B, spClipS_d, spClipS_pre, spClipS_post]
    repeat' (first | apply And.intro | (intro _) | omega | assumption | with_reducible rfl)
  
  any_goals
    have hI := hinv
    refine loopS (α := Int × (List Cross)) false [0, 2, 3, 4, 5, 8, 9, 12, 13, 14, 15, 16, 17, 18, 19, 20, 21, 22, 23, 24, 25, 26, 27, 29, 30, 31, 32, 33, 34, 35, 36, 37, 38, 39, 40, 41, 42, 43, 44, 45, 46, 47, 48, 49, 59, 64] (fun σ => []) (fun σ x => [(9, I x.1), (8, .c (.sl false (x.2.map crC)))]) (fun σ x => []) (fun (m, q) => 0) (fun σ => (gI (σ.get 9), gL crCd σ (σ.get 8))) (fun σ τ => []) (fun (m, q) => Spl (crS L (2 + 4 * w)) i q m) (fun (m, q) => q.length) ⟨by (simp (config := { maxSteps := 1000000 }) only [go_sem, ↓ifP_true, ↓ifP_false, ↓ifP_not, Nat.reduceLT, Nat.reduceAdd, Nat.reduceBEq, Nat.reduceSub, Nat.reduceLeDiff, Nat.reduceEqDiff, Nat.reduceMul, Int.reduceToNat, Int.reduceEq, Int.reduceLT, Int.reduceLE, Int.reduceAdd, Int.reduceSub, Int.reduceMul, reduceCtorEq, cond_true, cond_false, forall_eq', forall_eq, forall_const, implies_true, if_true, if_false, exists_eq_left', exists_eq', exists_eq, ne_eq, Try.f21, tb21_15, tb21_39, tb21_29, tb21_30, tb21_43, tb21_44, spSpV_q, spSpV_A, spSpV_pre, spSpV_post, spVRings_q, spVRings_A, spVRings_pre, spVRings_post, spRl_q, spRl_A, spRl_pre, spRl_post, spIsRow_q, spIsRow_A, spIsRow_pre, spIsRow_post, spCrsI_q, spCrsI_A, spCrsI_pre, spCrsI_post, spIns_q, spIns_A, spIns_pre, spIns_post, spClipS_q, spClipS_A, spClipS_B, spClipS_d, spClipS_pre, spClipS_post]; (repeat' (first | apply And.intro | (intro _) | omega | assumption | with_reducible rfl)); all_goals (first | exact hinv.2.2.sp.up)), ?_⟩
    rintro ⟨m, q⟩ hinv
    try dsimp only at hinv
    simp (config := { maxSteps := 1000000 }) only [go_sem, ↓ifP_true, ↓ifP_false, ↓ifP_not, Nat.reduceLT, Nat.reduceAdd, Nat.reduceBEq, Nat.reduceSub, Nat.reduceLeDiff, Nat.reduceEqDiff, Nat.reduceMul, Int.reduceToNat, Int.reduceEq, Int.reduceLT, Int.reduceLE, Int.reduceAdd, Int.reduceSub, Int.reduceMul, reduceCtorEq, cond_true, cond_false, forall_eq', forall_eq, forall_const, implies_true, if_true, if_false, exists_eq_left', exists_eq', exists_eq, ne_eq, Try.f21, tb21_15, tb21_39, tb21_29, tb21_30, tb21_43, tb21_44, spSpV_q, spSpV_A, spSpV_pre, spSpV_post, spVRings_q, spVRings_A, spVRings_pre, spVRings_post, spRl_q, spRl_A, spRl_pre, spRl_post, spIsRow_q, spIsRow_A, spIsRow_pre, spIsRow_post, spCrsI_q, spCrsI_A, spCrsI_pre, spCrsI_post, spIns_q, spIns_A, spIns_pre, spIns_post, spClipS_q, spClipS_A, spClipS_B, spClipS_d, spClipS_pre, spClipS_post]
    repeat' (first | apply And.intro | (intro _) | omega | assumption | with_reducible rfl)
  all_goals (first | ((have h1 := spl_bd ‹vRings L = true› hinv; have h2 := spl_at hinv ‹q[0]? = some _›; omega); done) | ((have h1 := spl_bd ‹vRings L = true› hinv; omega); done) | (exact spl_take2 hinv ‹Cross.a _ ≤ i› (by assumption) (by assumption); done) | ((rw [List.take_length, List.length_drop]; omega); done) | ((have h1 := run_ln hI.2.1; omega); done) | ((have h1 := run_ln hinv.2.1; omega); done) | ((have h1 := run_at hI.2.1 ‹o[_]? = some _›; omega); done) | (exact set_sp; done) | (exact spm_next (spmA (srt_OrdC _) hinv (by assumption) ‹_›); done) | (exact run_a hI.1.1 hI.2.1 (spmA (srt_OrdC _) hinv (by assumption) ‹_›) ‹_›; done) | (exact run_b2 ‹Span.t _ = i› (by assumption) (by assumption) (by assumption) hI.1.1 hI.2.1 (spmA (srt_OrdC _) hinv (by assumption) ‹_›) ‹_›; done) | (exact run_c1 ‹¬ Span.t _ = i› (by assumption) hI.1.1 hI.2.1 (spmA (srt_OrdC _) hinv (by assumption) ‹_›) ‹_›; done) | (exact run_c0 ‹_› hI.1.1 hI.2.1 (spmA (srt_OrdC _) hinv (by assumption) ‹_›) ‹_›; done) | (exact spm_next (spmB (srt_OrdC _) hinv ‹_›); done) | (exact run_a hI.1.1 hI.2.1 (spmB (srt_OrdC _) hinv ‹_›) ‹_›; done) | (exact run_b2 ‹Span.t _ = i› (by assumption) (by assumption) (by assumption) hI.1.1 hI.2.1 (spmB (srt_OrdC _) hinv ‹_›) ‹_›; done) | (exact run_c1 ‹¬ Span.t _ = i› (by assumption) hI.1.1 hI.2.1 (spmB (srt_OrdC _) hinv ‹_›) ‹_›; done) | (exact run_c0 ‹_› hI.1.1 hI.2.1 (spmB (srt_OrdC _) hinv ‹_›) ‹_›; done) | ((rw [spV_yes ‹_› ‹_› ⟨‹_›, ‹_›⟩, show (48:Nat) = i.toNat by omega]; exact hinv.2.1); done) | ((rw [spV_n1 ‹_›]; rfl); done) | ((rw [spV_n2 ‹_›]; rfl); done) | ((rw [spV_n3 ‹_›]; rfl); done) | (skip; done))
theorem sat_impl_SpansOf : Sat Try.prog rt0 21 (wkIn spSpV) := sat_in (sat_out sat_impl_SpansOf_0)
end Go.Proofs.Ytcejoknapbhloaa
end
