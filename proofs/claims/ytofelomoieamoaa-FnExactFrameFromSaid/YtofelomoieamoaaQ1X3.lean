/- Contracts of functions of the program vectorraster, each proved for all states that fit its description. No conditions. -/
import Derived.Test.YtofelomoieamoaaQ1X2
import Derived.Test.YtofelomoieamoaaKK
set_option maxRecDepth 100000
set_option linter.unusedSimpArgs false
set_option linter.unusedVariables false
namespace Go.Proofs.Ytofelomoieamoaa
open Go Go.VE
def mkC (k : Int) (n : Nat) : List Colr := (List.range n).map fun (j : Nat) => ⟨k + 4 * j, k + 4 * j + 1, k + 4 * j + 2, k + 4 * j + 3⟩
def mkR (k : Int) (n : Nat) : List Rn := (List.range n).map fun (j : Nat) => ⟨⟨k + 5 * j, k + 5 * j + 1, k + 5 * j + 2, k + 5 * j + 3⟩, k + 5 * j + 4⟩
theorem mkC_len (k : Int) (n : Nat) : (mkC k n).length = n := by simp [mkC]
theorem mkR_len (k : Int) (n : Nat) : (mkR k n).length = n := by simp [mkR]
theorem mkC_at {l : List Colr} {k i : Int} {c : Colr} (h : l = mkC k l.length) (h0 : 0 ≤ i) (hc : l[i.toNat]? = some c) : c.r = k + 4 * i ∧ c.g = k + 4 * i + 1 ∧ c.b = k + 4 * i + 2 ∧ c.a = k + 4 * i + 3 := by
  have hl := (List.getElem?_eq_some_iff.1 hc).1
  rw [h, mkC, List.getElem?_map, List.getElem?_range hl] at hc
  have := Option.some.inj hc
  subst this
  have e : ((i.toNat : Nat) : Int) = i := by omega
  dsimp only
  rw [e]
  exact ⟨rfl, rfl, rfl, rfl⟩
theorem mkR_at {l : List Rn} {k i : Int} {c : Rn} (h : l = mkR k l.length) (h0 : 0 ≤ i) (hc : l[i.toNat]? = some c) : c.c.r = k + 5 * i ∧ c.c.g = k + 5 * i + 1 ∧ c.c.b = k + 5 * i + 2 ∧ c.c.a = k + 5 * i + 3 ∧ c.m = k + 5 * i + 4 := by
  have hl := (List.getElem?_eq_some_iff.1 hc).1
  rw [h, mkR, List.getElem?_map, List.getElem?_range hl] at hc
  have := Option.some.inj hc
  subst this
  have e : ((i.toNat : Nat) : Int) = i := by omega
  dsimp only
  rw [e]
  exact ⟨rfl, rfl, rfl, rfl, rfl⟩
def mkLC (k : Int) (l : List Colr) (i : Int) : List Colr := mkC k i.toNat ++ l.drop i.toNat
def mkLR (k : Int) (l : List Rn) (i : Int) : List Rn := mkR k i.toNat ++ l.drop i.toNat
theorem mkC_succ (k : Int) (n : Nat) : mkC k (n + 1) = mkC k n ++ [⟨k + 4 * n, k + 4 * n + 1, k + 4 * n + 2, k + 4 * n + 3⟩] := by simp [mkC, List.range_succ]
theorem mkR_succ (k : Int) (n : Nat) : mkR k (n + 1) = mkR k n ++ [⟨⟨k + 5 * n, k + 5 * n + 1, k + 5 * n + 2, k + 5 * n + 3⟩, k + 5 * n + 4⟩] := by simp [mkR, List.range_succ]
theorem mkL_len {α : Type} {f : Int → Nat → List α} (hf : ∀ k n, (f k n).length = n) {k i : Int} {l : List α} (h : 0 ≤ i ∧ i ≤ (l.length : Int)) : (f k i.toNat ++ l.drop i.toNat).length = l.length := by
  rw [List.length_append, hf, List.length_drop]; omega
theorem mkL_set {α : Type} {f : Int → Nat → List α} (hf : ∀ k n, (f k n).length = n) {k i : Int} {l : List α} {y : α} (h : 0 ≤ i ∧ i < (l.length : Int)) (hs : f k (i.toNat + 1) = f k i.toNat ++ [y]) : (f k i.toNat ++ l.drop i.toNat).set i.toNat y = f k (i + 1).toNat ++ l.drop (i + 1).toNat := by
  rw [show (i + 1).toNat = i.toNat + 1 by omega, hs, List.set_append_right _ _ (by rw [hf]; omega), hf, Nat.sub_self, List.append_assoc]
  congr 1
  obtain ⟨z, hz⟩ : ∃ z, l[i.toNat]? = some z := ⟨_, List.getElem?_eq_getElem (by omega)⟩
  rw [List.drop_eq_getElem_cons (by omega)]
  rfl
theorem set_get {α : Type} {l : List α} {n : Nat} {x y : α} (h : (l.set n x)[n]? = some y) : y = x := by
  have hl := (List.getElem?_eq_some_iff.1 h).1
  rw [List.getElem?_set_self (by simpa using hl)] at h
  exact (Option.some.inj h).symm
theorem mkC_step {l o : List Colr} {k i q : Int} {c1 c2 c3 c4 : Colr} (h0 : 0 ≤ i) (h1 : i < (l.length : Int)) (ho : o = mkLC k l i) (hq : q = k + 4 * i)
    (h2 : (o.set i.toNat ⟨q, c1.g, c1.b, c1.a⟩)[i.toNat]? = some c2)
    (h3 : ((o.set i.toNat ⟨q, c1.g, c1.b, c1.a⟩).set i.toNat ⟨c2.r, q + 1, c2.b, c2.a⟩)[i.toNat]? = some c3)
    (h4 : (((o.set i.toNat ⟨q, c1.g, c1.b, c1.a⟩).set i.toNat ⟨c2.r, q + 1, c2.b, c2.a⟩).set i.toNat ⟨c3.r, c3.g, q + 1 + 1, c3.a⟩)[i.toNat]? = some c4) :
    (((o.set i.toNat ⟨q, c1.g, c1.b, c1.a⟩).set i.toNat ⟨c2.r, q + 1, c2.b, c2.a⟩).set i.toNat ⟨c3.r, c3.g, q + 1 + 1, c3.a⟩).set i.toNat ⟨c4.r, c4.g, c4.b, q + 1 + 1 + 1⟩ = mkLC k l (i + 1) := by
  have e2 := set_get h2
  subst e2
  have e3 := set_get h3
  subst e3
  have e4 := set_get h4
  subst e4
  dsimp only
  simp only [List.set_set]
  subst ho hq
  have e : ((i.toNat : Nat) : Int) = i := by omega
  have := mkL_set (l := l) mkC_len ⟨h0, h1⟩ (mkC_succ k i.toNat)
  rw [e] at this
  simp only [mkLC]
  rw [← this]
  congr 2 <;> omega
theorem mkR_step {l o : List Rn} {k i q : Int} {c1 c2 c3 c4 c5 : Rn} (h0 : 0 ≤ i) (h1 : i < (l.length : Int)) (ho : o = mkLR k l i) (hq : q = k + 5 * i)
    (h2 : (o.set i.toNat ⟨⟨q, c1.c.g, c1.c.b, c1.c.a⟩, c1.m⟩)[i.toNat]? = some c2)
    (h3 : ((o.set i.toNat ⟨⟨q, c1.c.g, c1.c.b, c1.c.a⟩, c1.m⟩).set i.toNat ⟨⟨c2.c.r, q + 1, c2.c.b, c2.c.a⟩, c2.m⟩)[i.toNat]? = some c3)
    (h4 : (((o.set i.toNat ⟨⟨q, c1.c.g, c1.c.b, c1.c.a⟩, c1.m⟩).set i.toNat ⟨⟨c2.c.r, q + 1, c2.c.b, c2.c.a⟩, c2.m⟩).set i.toNat ⟨⟨c3.c.r, c3.c.g, q + 1 + 1, c3.c.a⟩, c3.m⟩)[i.toNat]? = some c4)
    (h5 : ((((o.set i.toNat ⟨⟨q, c1.c.g, c1.c.b, c1.c.a⟩, c1.m⟩).set i.toNat ⟨⟨c2.c.r, q + 1, c2.c.b, c2.c.a⟩, c2.m⟩).set i.toNat ⟨⟨c3.c.r, c3.c.g, q + 1 + 1, c3.c.a⟩, c3.m⟩).set i.toNat ⟨⟨c4.c.r, c4.c.g, c4.c.b, q + 1 + 1 + 1⟩, c4.m⟩)[i.toNat]? = some c5) :
    ((((o.set i.toNat ⟨⟨q, c1.c.g, c1.c.b, c1.c.a⟩, c1.m⟩).set i.toNat ⟨⟨c2.c.r, q + 1, c2.c.b, c2.c.a⟩, c2.m⟩).set i.toNat ⟨⟨c3.c.r, c3.c.g, q + 1 + 1, c3.c.a⟩, c3.m⟩).set i.toNat ⟨⟨c4.c.r, c4.c.g, c4.c.b, q + 1 + 1 + 1⟩, c4.m⟩).set i.toNat ⟨c5.c, q + 1 + 1 + 1 + 1⟩ = mkLR k l (i + 1) := by
  have e2 := set_get h2
  subst e2
  have e3 := set_get h3
  subst e3
  have e4 := set_get h4
  subst e4
  have e5 := set_get h5
  subst e5
  dsimp only
  simp only [List.set_set]
  subst ho hq
  have e : ((i.toNat : Nat) : Int) = i := by omega
  have := mkL_set (l := l) mkR_len ⟨h0, h1⟩ (mkR_succ k i.toNat)
  rw [e] at this
  simp only [mkLR]
  rw [← this]
  rw [show k + 5 * i + 1 + 1 = k + 5 * i + 2 by omega, show k + 5 * i + 2 + 1 = k + 5 * i + 3 by omega, show k + 5 * i + 3 + 1 = k + 5 * i + 4 by omega]
theorem mkLC_end {l : List Colr} {k i : Int} (h : ¬ i < (l.length : Int)) (h2 : i ≤ (l.length : Int)) : mkLC k l i = mkC k l.length := by
  have e : i.toNat = l.length := by omega
  rw [mkLC, e, List.drop_length, List.append_nil]
theorem mkLR_end {l : List Rn} {k i : Int} (h : ¬ i < (l.length : Int)) (h2 : i ≤ (l.length : Int)) : mkLR k l i = mkR k l.length := by
  have e : i.toNat = l.length := by omega
  rw [mkLR, e, List.drop_length, List.append_nil]
theorem rnCd5 (r g b a m : Int) : rnCd [C.v (.int .i64 r), C.v (.int .i64 g), C.v (.int .i64 b), C.v (.int .i64 a), C.v (.int .i64 m)] = some ⟨⟨r, g, b, a⟩, m⟩ := rfl
theorem coC_set4 (o : List Colr) (n : Nat) (r g b a : Int) : (List.map coC o).set n [C.v (.int .i64 r), C.v (.int .i64 g), C.v (.int .i64 b), C.v (.int .i64 a)] = List.map coC (o.set n ⟨r, g, b, a⟩) := by rw [List.map_set]; rfl
theorem rnC_set5 (o : List Rn) (n : Nat) (r g b a m : Int) : (List.map rnC o).set n [C.v (.int .i64 r), C.v (.int .i64 g), C.v (.int .i64 b), C.v (.int .i64 a), C.v (.int .i64 m)] = List.map rnC (o.set n ⟨⟨r, g, b, a⟩, m⟩) := by rw [List.map_set]; rfl
def spMkC_A : List Colr × Int → List AV
  | (l, k) => [.c (.own 0 l.length false), I k]
def spMkC_B : List Colr × Int → List Box
  | (l, k) => [⟨l.map coC, 4, 44, true, false⟩]
def spMkC_d : List AV → List Box → Option (List Colr × Int)
  | [.c (.own 0 _ false), .c (.v (.int .i64 k))], [⟨es, _, _, _, _⟩] => match decAll coCd es with
    | some l => some (l, k)
    | none => none
  | _, _ => none
def spMkC_pre : List Colr × Int → Prop
  | (l, k) => (0 ≤ k ∧ k ≤ 1000000000000000) ∧ l.length ≤ 1000000000
def spMkC_post : List Colr × Int → AV → List Box → Prop
  | (l, k), r, bs => r = I (k + 4 * l.length) ∧ bs = [⟨(mkC k l.length).map coC, 4, 44, true, false⟩]
def spMkC : VE.Spec := famSpecM spMkC_A spMkC_B spMkC_d spMkC_pre spMkC_post 0 false [true] false
theorem spMkC_q : spMkC.flat = false ∧ spMkC.mt = [true] ∧ spMkC.shut = false ∧ spMkC.cost = 0 ∧ (∀ a i, spMkC.pre a i = (famPreM spMkC_d spMkC_A spMkC_B spMkC_pre a i)) ∧ ∀ a i r b, spMkC.post a i r b = (famPostM spMkC_d spMkC_post a i r b) := ⟨rfl, rfl, rfl, rfl, fun _ _ => rfl, fun _ _ _ _ => rfl⟩
def tb52 : Nat → Option VE.Spec := tabOf []
theorem tb52_ok : TabOK Try.prog rt0 tb52 := tabOf_nil
set_option maxHeartbeats 4000000 in
theorem sat_laws_markColorS_0 : Sat Try.prog rt0 52 (wkOut spMkC) := by
  refine fn_sat hm ttok (tab := tb52) tb52_ok Try.func52 (c := Try.f52.body.getD .skip) (by kernel_rfl) (ts := [.tmp 4]) (by kernel_rfl) Try.ntmps52 (sq := fun _ => true) (by kernel_rfl) ?_
  intro args ins pk hpre0 hpk
  obtain ⟨⟨l, k⟩, rfl, rfl, hpre, hdec⟩ := famPreM_ex hpre0
  clear hpre0 hdec
  try simp only [spMkC_pre] at hpre
  replace hpk : pk + 0 ≤ pickLimit := hpk
  refine ⟨Nat.le_of_ble_eq_true rfl, ?_⟩
  simp (config := { maxSteps := 1000000 }) only [go_sem, ↓ifP_true, ↓ifP_false, ↓ifP_not, Nat.reduceLT, Nat.reduceAdd, Nat.reduceBEq, Nat.reduceSub, Nat.reduceLeDiff, Nat.reduceEqDiff, Nat.reduceMul, Int.reduceToNat, Int.reduceEq, Int.reduceLT, Int.reduceLE, Int.reduceAdd, Int.reduceSub, Int.reduceMul, reduceCtorEq, cond_true, cond_false, forall_eq', forall_eq, forall_const, implies_true, if_true, if_false, exists_eq_left', exists_eq', exists_eq, ne_eq, Try.f52, spMkC_q, spMkC_A, spMkC_B, spMkC_d, spMkC_pre, spMkC_post, coC_set4, coC_setm]
  repeat' (first | apply And.intro | (intro _) | omega | assumption | with_reducible rfl)
  any_goals
    refine loopS (α := (List Colr) × Int × Int) false [1, 2, 3, 5, 6, 7, 8, 9, 10, 11, 12, 13, 14, 15, 16, 17, 18, 19, 20, 21, 22, 23, 24, 25, 26, 27, 28, 29, 30, 31, 32, 33, 34, 35, 36, 37, 38, 39] (fun σ => [0]) (fun σ x => [(5, I x.2.1), (1, I x.2.2)]) (fun σ x => [(0, some ⟨(x.1).map coC, 4, 44, true, false⟩)]) (fun (o, i, q) => 0) (fun σ => (gL coCd σ (.c (.own 0 (boxN σ 0).es.length false)), gI (σ.get 5), gI (σ.get 1))) (fun σ τ => []) (fun (o, i, q) => (0 ≤ i ∧ i ≤ l.length) ∧ o = mkLC k l i ∧ q = k + 4 * i) (fun (o, i, q) => (l.length - i).toNat) ⟨by (simp (config := { maxSteps := 1000000 }) only [go_sem, ↓ifP_true, ↓ifP_false, ↓ifP_not, Nat.reduceLT, Nat.reduceAdd, Nat.reduceBEq, Nat.reduceSub, Nat.reduceLeDiff, Nat.reduceEqDiff, Nat.reduceMul, Int.reduceToNat, Int.reduceEq, Int.reduceLT, Int.reduceLE, Int.reduceAdd, Int.reduceSub, Int.reduceMul, reduceCtorEq, cond_true, cond_false, forall_eq', forall_eq, forall_const, implies_true, if_true, if_false, exists_eq_left', exists_eq', exists_eq, ne_eq, Try.f52, spMkC_q, spMkC_A, spMkC_B, spMkC_d, spMkC_pre, spMkC_post, coC_set4, coC_setm]; (repeat' (first | apply And.intro | (intro _) | omega | assumption | with_reducible rfl)); all_goals (first | rfl | omega | skip)), ?_⟩
    rintro ⟨o, i, q⟩ hinv
    try dsimp only at hinv
    simp (config := { maxSteps := 1000000 }) only [go_sem, ↓ifP_true, ↓ifP_false, ↓ifP_not, Nat.reduceLT, Nat.reduceAdd, Nat.reduceBEq, Nat.reduceSub, Nat.reduceLeDiff, Nat.reduceEqDiff, Nat.reduceMul, Int.reduceToNat, Int.reduceEq, Int.reduceLT, Int.reduceLE, Int.reduceAdd, Int.reduceSub, Int.reduceMul, reduceCtorEq, cond_true, cond_false, forall_eq', forall_eq, forall_const, implies_true, if_true, if_false, exists_eq_left', exists_eq', exists_eq, ne_eq, Try.f52, spMkC_q, spMkC_A, spMkC_B, spMkC_d, spMkC_pre, spMkC_post, coC_set4, coC_setm]
    have hol : o.length = l.length := by rw [hinv.2.1]; exact mkL_len mkC_len hinv.1
    repeat' (first | apply And.intro | (intro _) | omega | assumption | with_reducible rfl)
  
  all_goals (first | (omega; done) | (exact mkC_step hinv.1.1 ‹_› hinv.2.1 hinv.2.2 ‹_› ‹_› ‹_›; done) | (exact hinv.2.1.trans (mkLC_end ‹_› hinv.1.2); done) | (skip; done))
theorem sat_laws_markColorS : Sat Try.prog rt0 52 (wkIn spMkC) := sat_in (sat_out sat_laws_markColorS_0)
def spMkR_A : List Rn × Int → List AV
  | (l, k) => [.c (.own 0 l.length false), I k]
def spMkR_B : List Rn × Int → List Box
  | (l, k) => [⟨l.map rnC, 5, 46, true, false⟩]
def spMkR_d : List AV → List Box → Option (List Rn × Int)
  | [.c (.own 0 _ false), .c (.v (.int .i64 k))], [⟨es, _, _, _, _⟩] => match decAll rnCd es with
    | some l => some (l, k)
    | none => none
  | _, _ => none
def spMkR_pre : List Rn × Int → Prop
  | (l, k) => (0 ≤ k ∧ k ≤ 1000000000000000) ∧ l.length ≤ 1000000000
def spMkR_post : List Rn × Int → AV → List Box → Prop
  | (l, k), r, bs => r = I (k + 5 * l.length) ∧ bs = [⟨(mkR k l.length).map rnC, 5, 46, true, false⟩]
def spMkR : VE.Spec := famSpecM spMkR_A spMkR_B spMkR_d spMkR_pre spMkR_post 0 false [true] false
theorem spMkR_q : spMkR.flat = false ∧ spMkR.mt = [true] ∧ spMkR.shut = false ∧ spMkR.cost = 0 ∧ (∀ a i, spMkR.pre a i = (famPreM spMkR_d spMkR_A spMkR_B spMkR_pre a i)) ∧ ∀ a i r b, spMkR.post a i r b = (famPostM spMkR_d spMkR_post a i r b) := ⟨rfl, rfl, rfl, rfl, fun _ _ => rfl, fun _ _ _ _ => rfl⟩
def tb29 : Nat → Option VE.Spec := tabOf []
theorem tb29_ok : TabOK Try.prog rt0 tb29 := tabOf_nil
set_option maxHeartbeats 4000000 in
theorem sat_laws_markRunS_0 : Sat Try.prog rt0 29 (wkOut spMkR) := by
  refine fn_sat hm ttok (tab := tb29) tb29_ok Try.func29 (c := Try.f29.body.getD .skip) (by kernel_rfl) (ts := [.tmp 4]) (by kernel_rfl) Try.ntmps29 (sq := fun _ => true) (by kernel_rfl) ?_
  intro args ins pk hpre0 hpk
  obtain ⟨⟨l, k⟩, rfl, rfl, hpre, hdec⟩ := famPreM_ex hpre0
  clear hpre0 hdec
  try simp only [spMkR_pre] at hpre
  replace hpk : pk + 0 ≤ pickLimit := hpk
  refine ⟨Nat.le_of_ble_eq_true rfl, ?_⟩
  simp (config := { maxSteps := 1000000 }) only [go_sem, ↓ifP_true, ↓ifP_false, ↓ifP_not, Nat.reduceLT, Nat.reduceAdd, Nat.reduceBEq, Nat.reduceSub, Nat.reduceLeDiff, Nat.reduceEqDiff, Nat.reduceMul, Int.reduceToNat, Int.reduceEq, Int.reduceLT, Int.reduceLE, Int.reduceAdd, Int.reduceSub, Int.reduceMul, reduceCtorEq, cond_true, cond_false, forall_eq', forall_eq, forall_const, implies_true, if_true, if_false, exists_eq_left', exists_eq', exists_eq, ne_eq, Try.f29, spMkR_q, spMkR_A, spMkR_B, spMkR_d, spMkR_pre, spMkR_post, rnCd5, rnC_set5, rnC_setm]
  repeat' (first | apply And.intro | (intro _) | omega | assumption | with_reducible rfl)
  any_goals
    refine loopS (α := (List Rn) × Int × Int) false [1, 2, 3, 5, 6, 7, 8, 9, 10, 11, 12, 13, 14, 15, 16, 17, 18, 19, 20, 21, 22, 23, 24, 25, 26, 27, 28, 29, 30, 31, 32, 33, 34, 35, 36, 37, 38, 39, 40, 41, 42, 43, 44, 45, 46, 47, 48, 49, 50] (fun σ => [0]) (fun σ x => [(5, I x.2.1), (1, I x.2.2)]) (fun σ x => [(0, some ⟨(x.1).map rnC, 5, 46, true, false⟩)]) (fun (o, i, q) => 0) (fun σ => (gL rnCd σ (.c (.own 0 (boxN σ 0).es.length false)), gI (σ.get 5), gI (σ.get 1))) (fun σ τ => []) (fun (o, i, q) => (0 ≤ i ∧ i ≤ l.length) ∧ o = mkLR k l i ∧ q = k + 5 * i) (fun (o, i, q) => (l.length - i).toNat) ⟨by (simp (config := { maxSteps := 1000000 }) only [go_sem, ↓ifP_true, ↓ifP_false, ↓ifP_not, Nat.reduceLT, Nat.reduceAdd, Nat.reduceBEq, Nat.reduceSub, Nat.reduceLeDiff, Nat.reduceEqDiff, Nat.reduceMul, Int.reduceToNat, Int.reduceEq, Int.reduceLT, Int.reduceLE, Int.reduceAdd, Int.reduceSub, Int.reduceMul, reduceCtorEq, cond_true, cond_false, forall_eq', forall_eq, forall_const, implies_true, if_true, if_false, exists_eq_left', exists_eq', exists_eq, ne_eq, Try.f29, spMkR_q, spMkR_A, spMkR_B, spMkR_d, spMkR_pre, spMkR_post, rnCd5, rnC_set5, rnC_setm]; (repeat' (first | apply And.intro | (intro _) | omega | assumption | with_reducible rfl)); all_goals (first | rfl | omega | skip)), ?_⟩
    rintro ⟨o, i, q⟩ hinv
    try dsimp only at hinv
    simp (config := { maxSteps := 1000000 }) only [go_sem, ↓ifP_true, ↓ifP_false, ↓ifP_not, Nat.reduceLT, Nat.reduceAdd, Nat.reduceBEq, Nat.reduceSub, Nat.reduceLeDiff, Nat.reduceEqDiff, Nat.reduceMul, Int.reduceToNat, Int.reduceEq, Int.reduceLT, Int.reduceLE, Int.reduceAdd, Int.reduceSub, Int.reduceMul, reduceCtorEq, cond_true, cond_false, forall_eq', forall_eq, forall_const, implies_true, if_true, if_false, exists_eq_left', exists_eq', exists_eq, ne_eq, Try.f29, spMkR_q, spMkR_A, spMkR_B, spMkR_d, spMkR_pre, spMkR_post, rnCd5, rnC_set5, rnC_setm]
    have hol : o.length = l.length := by rw [hinv.2.1]; exact mkL_len mkR_len hinv.1
    repeat' (first | apply And.intro | (intro _) | omega | assumption | with_reducible rfl)
  
  all_goals (first | (omega; done) | (exact mkR_step hinv.1.1 ‹_› hinv.2.1 hinv.2.2 ‹_› ‹_› ‹_› ‹_›; done) | (exact hinv.2.1.trans (mkLR_end ‹_› hinv.1.2); done) | (skip; done))
theorem sat_laws_markRunS : Sat Try.prog rt0 29 (wkIn spMkR) := sat_in (sat_out sat_laws_markRunS_0)
def spHeC_A : (List Colr) × Int → List AV
  | (l, k) => [.c (.sl false (l.map coC)), I k]
def spHeC_pre : (List Colr) × Int → Prop
  | (l, k) => (0 ≤ k ∧ k ≤ 1000000000000000) ∧ l.length ≤ 1000000000 ∧ l = mkC k l.length
def spHeC_post : (List Colr) × Int → AV → List Box → Prop
  | (l, k), r, bs => r = I (k + 4 * l.length) ∧ bs = []
def spHeC : VE.Spec := famSpec spHeC_A d_lco_i spHeC_pre spHeC_post 0 true
theorem spHeC_q : spHeC.flat = true ∧ spHeC.mt = [] ∧ spHeC.shut = false ∧ spHeC.cost = 0 ∧ (∀ a i, spHeC.pre a i = (i = [] ∧ famPre d_lco_i spHeC_A spHeC_pre a)) ∧ ∀ a i r b, spHeC.post a i r b = (famPost d_lco_i spHeC_post a r b) := ⟨rfl, rfl, rfl, rfl, fun _ _ => rfl, fun _ _ _ _ => rfl⟩
def tb62 : Nat → Option VE.Spec := tabOf []
theorem tb62_ok : TabOK Try.prog rt0 tb62 := tabOf_nil
set_option maxHeartbeats 4000000 in
theorem sat_laws_heldColorS_0 : Sat Try.prog rt0 62 (wkOut spHeC) := by
  refine fn_sat hm ttok (tab := tb62) tb62_ok Try.func62 (c := Try.f62.body.getD .skip) (by kernel_rfl) (ts := [.tmp 4]) (by kernel_rfl) Try.ntmps62 (sq := fun _ => true) (by kernel_rfl) ?_
  intro args ins pk hpre0 hpk
  obtain ⟨rfl, hpre0⟩ := hpre0
  obtain ⟨⟨l, k⟩, rfl, hpre, hdec⟩ := famPre_ex hpre0
  clear hpre0 hdec
  try simp only [spHeC_pre] at hpre
  replace hpk : pk + 0 ≤ pickLimit := hpk
  refine ⟨Nat.le_of_ble_eq_true rfl, ?_⟩
  simp (config := { maxSteps := 1000000 }) only [go_sem, ↓ifP_true, ↓ifP_false, ↓ifP_not, Nat.reduceLT, Nat.reduceAdd, Nat.reduceBEq, Nat.reduceSub, Nat.reduceLeDiff, Nat.reduceEqDiff, Nat.reduceMul, Int.reduceToNat, Int.reduceEq, Int.reduceLT, Int.reduceLE, Int.reduceAdd, Int.reduceSub, Int.reduceMul, reduceCtorEq, cond_true, cond_false, forall_eq', forall_eq, forall_const, implies_true, if_true, if_false, exists_eq_left', exists_eq', exists_eq, ne_eq, Try.f62, spHeC_q, spHeC_A, spHeC_pre, spHeC_post]
  repeat' (first | apply And.intro | (intro _) | omega | assumption | with_reducible rfl)
  any_goals
    refine loopS (α := Int × Int) false [1, 2, 3, 4, 5, 6, 7, 8, 9, 10, 11, 12, 13, 14, 15, 16, 17, 18, 19, 20, 21, 22, 23, 24, 25, 26, 27, 28, 29, 30, 31, 32, 33, 34, 35, 36, 37, 38, 39, 40, 41, 42, 43, 44, 45, 46, 47] (fun σ => []) (fun σ x => [(5, I x.1), (1, I x.2)]) (fun σ x => []) (fun (i, q) => 0) (fun σ => (gI (σ.get 5), gI (σ.get 1))) (fun σ τ => []) (fun (i, q) => (0 ≤ i ∧ i ≤ l.length) ∧ q = k + 4 * i) (fun (i, q) => (l.length - i).toNat) ⟨by (simp (config := { maxSteps := 1000000 }) only [go_sem, ↓ifP_true, ↓ifP_false, ↓ifP_not, Nat.reduceLT, Nat.reduceAdd, Nat.reduceBEq, Nat.reduceSub, Nat.reduceLeDiff, Nat.reduceEqDiff, Nat.reduceMul, Int.reduceToNat, Int.reduceEq, Int.reduceLT, Int.reduceLE, Int.reduceAdd, Int.reduceSub, Int.reduceMul, reduceCtorEq, cond_true, cond_false, forall_eq', forall_eq, forall_const, implies_true, if_true, if_false, exists_eq_left', exists_eq', exists_eq, ne_eq, Try.f62, spHeC_q, spHeC_A, spHeC_pre, spHeC_post]; (repeat' (first | apply And.intro | (intro _) | omega | assumption | with_reducible rfl)); all_goals (first | omega)), ?_⟩
    rintro ⟨i, q⟩ hinv
    try dsimp only at hinv
    rcases elemAt l i (by omega) with ⟨hlt, c, hk⟩ | hlt
    all_goals (first | ((have hlt2 := of_eq_true hlt); (have hmk := mkC_at hpre.2.2 hinv.1.1 hk); all_goals simp (config := { maxSteps := 1000000 }) only [go_sem, ↓ifP_true, ↓ifP_false, ↓ifP_not, Nat.reduceLT, Nat.reduceAdd, Nat.reduceBEq, Nat.reduceSub, Nat.reduceLeDiff, Nat.reduceEqDiff, Nat.reduceMul, Int.reduceToNat, Int.reduceEq, Int.reduceLT, Int.reduceLE, Int.reduceAdd, Int.reduceSub, Int.reduceMul, reduceCtorEq, cond_true, cond_false, forall_eq', forall_eq, forall_const, implies_true, if_true, if_false, exists_eq_left', exists_eq', exists_eq, ne_eq, Try.f62, spHeC_q, spHeC_A, spHeC_pre, spHeC_post, hlt, hk]) | (have hlt2 := of_eq_false hlt; simp (config := { maxSteps := 1000000 }) only [go_sem, ↓ifP_true, ↓ifP_false, ↓ifP_not, Nat.reduceLT, Nat.reduceAdd, Nat.reduceBEq, Nat.reduceSub, Nat.reduceLeDiff, Nat.reduceEqDiff, Nat.reduceMul, Int.reduceToNat, Int.reduceEq, Int.reduceLT, Int.reduceLE, Int.reduceAdd, Int.reduceSub, Int.reduceMul, reduceCtorEq, cond_true, cond_false, forall_eq', forall_eq, forall_const, implies_true, if_true, if_false, exists_eq_left', exists_eq', exists_eq, ne_eq, Try.f62, spHeC_q, spHeC_A, spHeC_pre, spHeC_post, hlt]))
    all_goals
      repeat' (first | apply And.intro | (intro _) | omega | assumption | with_reducible rfl)
  
  all_goals (first | (omega; done) | (skip; done))
theorem sat_laws_heldColorS : Sat Try.prog rt0 62 (wkIn spHeC) := sat_in (sat_out sat_laws_heldColorS_0)
def spHeR_A : (List Rn) × Int → List AV
  | (l, k) => [.c (.sl false (l.map rnC)), I k]
def spHeR_pre : (List Rn) × Int → Prop
  | (l, k) => (0 ≤ k ∧ k ≤ 1000000000000000) ∧ l.length ≤ 1000000000 ∧ l = mkR k l.length
def spHeR_post : (List Rn) × Int → AV → List Box → Prop
  | (l, k), r, bs => r = I (k + 5 * l.length) ∧ bs = []
def spHeR : VE.Spec := famSpec spHeR_A d_lrn_i spHeR_pre spHeR_post 0 true
theorem spHeR_q : spHeR.flat = true ∧ spHeR.mt = [] ∧ spHeR.shut = false ∧ spHeR.cost = 0 ∧ (∀ a i, spHeR.pre a i = (i = [] ∧ famPre d_lrn_i spHeR_A spHeR_pre a)) ∧ ∀ a i r b, spHeR.post a i r b = (famPost d_lrn_i spHeR_post a r b) := ⟨rfl, rfl, rfl, rfl, fun _ _ => rfl, fun _ _ _ _ => rfl⟩
def tb30 : Nat → Option VE.Spec := tabOf []
theorem tb30_ok : TabOK Try.prog rt0 tb30 := tabOf_nil
set_option maxHeartbeats 4000000 in
theorem sat_laws_heldRunS_0 : Sat Try.prog rt0 30 (wkOut spHeR) := by
  refine fn_sat hm ttok (tab := tb30) tb30_ok Try.func30 (c := Try.f30.body.getD .skip) (by kernel_rfl) (ts := [.tmp 4]) (by kernel_rfl) Try.ntmps30 (sq := fun _ => true) (by kernel_rfl) ?_
  intro args ins pk hpre0 hpk
  obtain ⟨rfl, hpre0⟩ := hpre0
  obtain ⟨⟨l, k⟩, rfl, hpre, hdec⟩ := famPre_ex hpre0
  clear hpre0 hdec
  try simp only [spHeR_pre] at hpre
  replace hpk : pk + 0 ≤ pickLimit := hpk
  refine ⟨Nat.le_of_ble_eq_true rfl, ?_⟩
  simp (config := { maxSteps := 1000000 }) only [go_sem, ↓ifP_true, ↓ifP_false, ↓ifP_not, Nat.reduceLT, Nat.reduceAdd, Nat.reduceBEq, Nat.reduceSub, Nat.reduceLeDiff, Nat.reduceEqDiff, Nat.reduceMul, Int.reduceToNat, Int.reduceEq, Int.reduceLT, Int.reduceLE, Int.reduceAdd, Int.reduceSub, Int.reduceMul, reduceCtorEq, cond_true, cond_false, forall_eq', forall_eq, forall_const, implies_true, if_true, if_false, exists_eq_left', exists_eq', exists_eq, ne_eq, Try.f30, spHeR_q, spHeR_A, spHeR_pre, spHeR_post]
  repeat' (first | apply And.intro | (intro _) | omega | assumption | with_reducible rfl)
  any_goals
    refine loopS (α := Int × Int) false [1, 2, 3, 4, 5, 6, 7, 8, 9, 10, 11, 12, 13, 14, 15, 16, 17, 18, 19, 20, 21, 22, 23, 24, 25, 26, 27, 28, 29, 30, 31, 32, 33, 34, 35, 36, 37, 38, 39, 40, 41, 42, 43, 44, 45, 46, 47, 48, 49, 50, 51, 52, 53, 54, 55, 56, 57, 58, 59, 60] (fun σ => []) (fun σ x => [(5, I x.1), (1, I x.2)]) (fun σ x => []) (fun (i, q) => 0) (fun σ => (gI (σ.get 5), gI (σ.get 1))) (fun σ τ => []) (fun (i, q) => (0 ≤ i ∧ i ≤ l.length) ∧ q = k + 5 * i) (fun (i, q) => (l.length - i).toNat) ⟨by (simp (config := { maxSteps := 1000000 }) only [go_sem, ↓ifP_true, ↓ifP_false, ↓ifP_not, Nat.reduceLT, Nat.reduceAdd, Nat.reduceBEq, Nat.reduceSub, Nat.reduceLeDiff, Nat.reduceEqDiff, Nat.reduceMul, Int.reduceToNat, Int.reduceEq, Int.reduceLT, Int.reduceLE, Int.reduceAdd, Int.reduceSub, Int.reduceMul, reduceCtorEq, cond_true, cond_false, forall_eq', forall_eq, forall_const, implies_true, if_true, if_false, exists_eq_left', exists_eq', exists_eq, ne_eq, Try.f30, spHeR_q, spHeR_A, spHeR_pre, spHeR_post]; (repeat' (first | apply And.intro | (intro _) | omega | assumption | with_reducible rfl)); all_goals (first | omega)), ?_⟩
    rintro ⟨i, q⟩ hinv
    try dsimp only at hinv
    rcases elemAt l i (by omega) with ⟨hlt, c, hk⟩ | hlt
    all_goals (first | ((have hlt2 := of_eq_true hlt); (have hmk := mkR_at hpre.2.2 hinv.1.1 hk); all_goals simp (config := { maxSteps := 1000000 }) only [go_sem, ↓ifP_true, ↓ifP_false, ↓ifP_not, Nat.reduceLT, Nat.reduceAdd, Nat.reduceBEq, Nat.reduceSub, Nat.reduceLeDiff, Nat.reduceEqDiff, Nat.reduceMul, Int.reduceToNat, Int.reduceEq, Int.reduceLT, Int.reduceLE, Int.reduceAdd, Int.reduceSub, Int.reduceMul, reduceCtorEq, cond_true, cond_false, forall_eq', forall_eq, forall_const, implies_true, if_true, if_false, exists_eq_left', exists_eq', exists_eq, ne_eq, Try.f30, spHeR_q, spHeR_A, spHeR_pre, spHeR_post, hlt, hk]) | (have hlt2 := of_eq_false hlt; simp (config := { maxSteps := 1000000 }) only [go_sem, ↓ifP_true, ↓ifP_false, ↓ifP_not, Nat.reduceLT, Nat.reduceAdd, Nat.reduceBEq, Nat.reduceSub, Nat.reduceLeDiff, Nat.reduceEqDiff, Nat.reduceMul, Int.reduceToNat, Int.reduceEq, Int.reduceLT, Int.reduceLE, Int.reduceAdd, Int.reduceSub, Int.reduceMul, reduceCtorEq, cond_true, cond_false, forall_eq', forall_eq, forall_const, implies_true, if_true, if_false, exists_eq_left', exists_eq', exists_eq, ne_eq, Try.f30, spHeR_q, spHeR_A, spHeR_pre, spHeR_post, hlt]))
    all_goals
      repeat' (first | apply And.intro | (intro _) | omega | assumption | with_reducible rfl)
  
  all_goals (first | (omega; done) | (skip; done))
theorem sat_laws_heldRunS : Sat Try.prog rt0 30 (wkIn spHeR) := sat_in (sat_out sat_laws_heldRunS_0)
def spMkF_A : Int × Int × List Colr × Int → List AV
  | (fw, fh, px, k) => [.agg [C.v (.int .i64 fw), C.v (.int .i64 fh), C.own 0 px.length false], I k]
def spMkF_B : Int × Int × List Colr × Int → List Box
  | (fw, fh, px, k) => [⟨px.map coC, 4, 44, true, false⟩]
def spMkF_d : List AV → List Box → Option (Int × Int × List Colr × Int)
  | [.agg [.v (.int .i64 fw), .v (.int .i64 fh), .own 0 _ false], .c (.v (.int .i64 k))], [⟨es, _, _, _, _⟩] => match decAll coCd es with
    | some px => some (fw, fh, px, k)
    | none => none
  | _, _ => none
def spMkF_pre : Int × Int × List Colr × Int → Prop
  | (fw, fh, px, k) => (0 ≤ k ∧ k ≤ 1000000000000000) ∧ px.length ≤ 1000000000
def spMkF_post : Int × Int × List Colr × Int → AV → List Box → Prop
  | (fw, fh, px, k), r, bs => r = I (k + 4 * px.length) ∧ bs = [⟨(mkC k px.length).map coC, 4, 44, true, false⟩]
def spMkF : VE.Spec := famSpecM spMkF_A spMkF_B spMkF_d spMkF_pre spMkF_post 0 false [true] false
theorem spMkF_q : spMkF.flat = false ∧ spMkF.mt = [true] ∧ spMkF.shut = false ∧ spMkF.cost = 0 ∧ (∀ a i, spMkF.pre a i = (famPreM spMkF_d spMkF_A spMkF_B spMkF_pre a i)) ∧ ∀ a i r b, spMkF.post a i r b = (famPostM spMkF_d spMkF_post a i r b) := ⟨rfl, rfl, rfl, rfl, fun _ _ => rfl, fun _ _ _ _ => rfl⟩
def tb28 : Nat → Option VE.Spec := tabOf [(52, wkIn spMkC)]
theorem tb28_52 : tb28 52 = some (wkIn spMkC) := rfl
theorem tb28_ok : TabOK Try.prog rt0 tb28 := (tabOf_cons (by kernel_rfl) sat_laws_markColorS tabOf_nil)
set_option maxHeartbeats 4000000 in
theorem sat_laws_markFrame_0 : Sat Try.prog rt0 28 (wkOut spMkF) := by
  refine fn_sat hm ttok (tab := tb28) tb28_ok Try.func28 (c := Try.f28.body.getD .skip) (by kernel_rfl) (ts := [.tmp 4]) (by kernel_rfl) Try.ntmps28 (sq := fun _ => true) (by kernel_rfl) ?_
  intro args ins pk hpre0 hpk
  obtain ⟨⟨fw, fh, px, k⟩, rfl, rfl, hpre, hdec⟩ := famPreM_ex hpre0
  clear hpre0 hdec
  try simp only [spMkF_pre] at hpre
  replace hpk : pk + 0 ≤ pickLimit := hpk
  refine ⟨Nat.le_of_ble_eq_true rfl, ?_⟩
  simp (config := { maxSteps := 1000000 }) only [go_sem, ↓ifP_true, ↓ifP_false, ↓ifP_not, Nat.reduceLT, Nat.reduceAdd, Nat.reduceBEq, Nat.reduceSub, Nat.reduceLeDiff, Nat.reduceEqDiff, Nat.reduceMul, Int.reduceToNat, Int.reduceEq, Int.reduceLT, Int.reduceLE, Int.reduceAdd, Int.reduceSub, Int.reduceMul, reduceCtorEq, cond_true, cond_false, forall_eq', forall_eq, forall_const, implies_true, if_true, if_false, exists_eq_left', exists_eq', exists_eq, ne_eq, Try.f28, tb28_52, spMkF_q, spMkF_A, spMkF_B, spMkF_d, spMkF_pre, spMkF_post, spMkC_q, spMkC_A, spMkC_B, spMkC_d, spMkC_pre, spMkC_post]
  repeat' (first | apply And.intro | (intro _) | omega | assumption | with_reducible rfl)
  all_goals (first | (omega; done) | (rfl; done) | (skip; done))
theorem sat_laws_markFrame : Sat Try.prog rt0 28 (wkIn spMkF) := sat_in (sat_out sat_laws_markFrame_0)
def spHeF_A : Frm × Int → List AV
  | (f, k) => [.agg (frC f), I k]
def spHeF_pre : Frm × Int → Prop
  | (f, k) => (0 ≤ k ∧ k ≤ 1000000000000000) ∧ f.px.length ≤ 1000000000 ∧ f.px = mkC k f.px.length
def spHeF_post : Frm × Int → AV → List Box → Prop
  | (f, k), r, bs => r = I (k + 4 * f.px.length) ∧ bs = []
def spHeF : VE.Spec := famSpec spHeF_A d_fr_i spHeF_pre spHeF_post 0 true
theorem spHeF_q : spHeF.flat = true ∧ spHeF.mt = [] ∧ spHeF.shut = false ∧ spHeF.cost = 0 ∧ (∀ a i, spHeF.pre a i = (i = [] ∧ famPre d_fr_i spHeF_A spHeF_pre a)) ∧ ∀ a i r b, spHeF.post a i r b = (famPost d_fr_i spHeF_post a r b) := ⟨rfl, rfl, rfl, rfl, fun _ _ => rfl, fun _ _ _ _ => rfl⟩
def tb36 : Nat → Option VE.Spec := tabOf [(62, wkIn spHeC)]
theorem tb36_62 : tb36 62 = some (wkIn spHeC) := rfl
theorem tb36_ok : TabOK Try.prog rt0 tb36 := (tabOf_cons (by kernel_rfl) sat_laws_heldColorS tabOf_nil)
set_option maxHeartbeats 4000000 in
theorem sat_laws_heldFrame_0 : Sat Try.prog rt0 36 (wkOut spHeF) := by
  refine fn_sat hm ttok (tab := tb36) tb36_ok Try.func36 (c := Try.f36.body.getD .skip) (by kernel_rfl) (ts := [.tmp 4]) (by kernel_rfl) Try.ntmps36 (sq := fun _ => true) (by kernel_rfl) ?_
  intro args ins pk hpre0 hpk
  obtain ⟨rfl, hpre0⟩ := hpre0
  obtain ⟨⟨f, k⟩, rfl, hpre, hdec⟩ := famPre_ex hpre0
  clear hpre0 hdec
  try simp only [spHeF_pre] at hpre
  replace hpk : pk + 0 ≤ pickLimit := hpk
  refine ⟨Nat.le_of_ble_eq_true rfl, ?_⟩
  simp (config := { maxSteps := 1000000 }) only [go_sem, ↓ifP_true, ↓ifP_false, ↓ifP_not, Nat.reduceLT, Nat.reduceAdd, Nat.reduceBEq, Nat.reduceSub, Nat.reduceLeDiff, Nat.reduceEqDiff, Nat.reduceMul, Int.reduceToNat, Int.reduceEq, Int.reduceLT, Int.reduceLE, Int.reduceAdd, Int.reduceSub, Int.reduceMul, reduceCtorEq, cond_true, cond_false, forall_eq', forall_eq, forall_const, implies_true, if_true, if_false, exists_eq_left', exists_eq', exists_eq, ne_eq, Try.f36, tb36_62, spHeF_q, spHeF_A, spHeF_pre, spHeF_post, spHeC_q, spHeC_A, spHeC_pre, spHeC_post]
  repeat' (first | apply And.intro | (intro _) | omega | assumption | with_reducible rfl)
  all_goals (first | (exact hpre.2.2; done) | (omega; done) | (skip; done))
theorem sat_laws_heldFrame : Sat Try.prog rt0 36 (wkIn spHeF) := sat_in (sat_out sat_laws_heldFrame_0)
end Go.Proofs.Ytofelomoieamoaa
