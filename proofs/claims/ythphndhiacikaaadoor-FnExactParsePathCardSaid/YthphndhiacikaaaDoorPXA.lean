/- Contracts of functions of the program vectorraster, each proved for all states that fit its description. No conditions. -/
import Derived.Test.YthphndhiacikaaaDoorT2KY
import Derived.Test.YthphndhiacikaaaDoorT2Z9
import Derived.Test.YthphndhiacikaaaDoorEX
set_option linter.unusedSimpArgs false
set_option linter.unusedVariables false
section
set_option maxRecDepth 100000
set_option linter.unusedSimpArgs false
set_option linter.unusedVariables false
namespace Go.Proofs.YthphndhiacikaaaDoor
open Go Go.VE
/-- A verb, by its very cells: the block of its points, how many they are. -/
structure Vx where
  k : Int
  g : Option (Nat × Nat)
def vxP : Option (Nat × Nat) → C
  | none => .sl true []
  | some (g, n) => .v (.slice (some ⟨g, 0, none⟩) n n)
def vxC (x : Vx) : List C := [.v (.int .i64 x.k), vxP x.g]
def vxCd : List C → Option Vx
  | [.v (.int .i64 k), .sl _ []] => some ⟨k, none⟩
  | [.v (.int .i64 k), .v (.slice (some ⟨g, _, _⟩) n _)] => some ⟨k, some (g, n)⟩
  | _ => none
theorem vxC_dec (k : Vx) : vxCd (vxC k) = some k := by obtain ⟨kk, _ | ⟨g, n⟩⟩ := k <;> rfl
theorem vxC_ds (l : List Vx) : decAll vxCd (l.map vxC) = some l := decAll_map (g := vxC) vxC_dec l
theorem vxC_len (k : Vx) : (vxC k).length = 2 := by obtain ⟨kk, _ | ⟨g, n⟩⟩ := k <;> rfl
theorem vxC_takeN (k : Vx) : List.take 2 (vxC k) = vxC k := by obtain ⟨kk, _ | ⟨g, n⟩⟩ := k <;> rfl
theorem vxC_takeA (k : Vx) (l : List C) : List.take 2 (vxC k ++ l) = vxC k := by obtain ⟨kk, _ | ⟨g, n⟩⟩ := k <;> rfl
theorem vxC_dropA (k : Vx) (l : List C) : List.drop 2 (vxC k ++ l) = l := by obtain ⟨kk, _ | ⟨g, n⟩⟩ := k <;> rfl
theorem vxC_takeB (k : Vx) (m : Nat) (l : List C) : List.take (m + 2) (vxC k ++ l) = vxC k ++ List.take m l := by obtain ⟨kk, _ | ⟨g, n⟩⟩ := k <;> rfl
theorem vxC_dropB (k : Vx) (m : Nat) (l : List C) : List.drop (m + 2) (vxC k ++ l) = List.drop m l := by obtain ⟨kk, _ | ⟨g, n⟩⟩ := k <;> rfl
theorem vxC_dropN (k : Vx) : List.drop 2 (vxC k) = [] := by obtain ⟨kk, _ | ⟨g, n⟩⟩ := k <;> rfl
theorem vxC_all (l : List Vx) : (∀ e ∈ l.map vxC, e.length = 2) = True := all_len vxC_len l
theorem vxC_strip (k : Vx) : List.map strip (vxC k) = vxC k := by obtain ⟨kk, _ | ⟨g, n⟩⟩ := k <;> rfl
theorem vxC_seal (s : St) (k : Vx) : List.map (sealC s) (vxC k) = vxC k := by obtain ⟨kk, _ | ⟨g, n⟩⟩ := k <;> rfl
theorem vxC_ren (s : St) (i : List Nat) (k : Vx) : List.map (renC s i) (vxC k) = vxC k := by obtain ⟨kk, _ | ⟨g, n⟩⟩ := k <;> rfl
theorem vxC_exp (s : St) (i : List Nat) (k : Vx) : List.map (expC s i) (vxC k) = vxC k := by obtain ⟨kk, _ | ⟨g, n⟩⟩ := k <;> rfl
theorem vxC_map (f : Nat → Nat) (k : Vx) : List.map (mapC f) (vxC k) = vxC k := by obtain ⟨kk, _ | ⟨g, n⟩⟩ := k <;> rfl
theorem vxC_gat (s : St) (i : List Nat) (k : Vx) : gather s 64 i (vxC k) = i := by obtain ⟨kk, _ | ⟨g, n⟩⟩ := k <;> rfl
theorem vxC_rok (s : St) (l i : List Nat) (k : Vx) : renOks s l i (vxC k) = True := eq_true (by obtain ⟨kk, _ | ⟨g, n⟩⟩ := k <;> repeat' constructor)
theorem vxC_row (k : Vx) : rowIds (vxC k) = [] := by obtain ⟨kk, _ | ⟨g, n⟩⟩ := k <;> rfl
theorem vxC_eok (s : St) (i : List Nat) (k : Vx) : expOks s i (vxC k) = True := eq_true (by obtain ⟨kk, _ | ⟨g, n⟩⟩ := k <;> repeat' constructor)
theorem vxC_sok (s : St) (k : Vx) : sealOks s (vxC k) = True := eq_true (by obtain ⟨kk, _ | ⟨g, n⟩⟩ := k <;> repeat' constructor)
theorem vxC_okR (k : Vx) : okRs (vxC k) = True := eq_true (by obtain ⟨kk, _ | ⟨g, n⟩⟩ := k <;> repeat' constructor)
theorem vxC_okC (k : Vx) : okCs (vxC k) = True := eq_true (by obtain ⟨kk, _ | ⟨g, n⟩⟩ := k <;> repeat' constructor)
theorem vxC_okR0 (k : Vx) : okR0s (vxC k) = True := eq_true (by obtain ⟨kk, _ | ⟨g, n⟩⟩ := k <;> repeat' constructor)
theorem vxC_inj (a b : Vx) : (vxC a = vxC b) = (a = b) := by
  refine propext ⟨fun h => ?_, fun h => by rw [h]⟩
  have := congrArg vxCd h
  rw [vxC_dec, vxC_dec] at this
  exact Option.some.inj this
theorem vxC_minj (a b : List Vx) : (a.map vxC = b.map vxC) = (a = b) := by
  refine propext ⟨fun h => ?_, fun h => by rw [h]⟩
  have := congrArg (decAll vxCd) h
  rw [vxC_ds, vxC_ds] at this
  exact Option.some.inj this
theorem vxC_le (s : St) (ρ : List (Nat × Nat)) (hp : List (Nat × Option Box)) (k : Vx) : leCs s ρ hp (vxC k) (vxC k) = True := eq_true (by obtain ⟨kk, _ | ⟨g, n⟩⟩ := k <;> repeat' first | constructor | (intro h; cases h))
theorem vxC_mk (k1 : Int) (g n : Nat) : vxC ⟨k1, some (g, n)⟩ = C.v (.int .i64 k1) :: [C.v (.slice (some ⟨g, 0, none⟩) n n)] := rfl
theorem vxC_m0 (k1 : Int) : vxC ⟨k1, none⟩ = C.v (.int .i64 k1) :: [C.sl true []] := rfl
def nav : List Nat → Code → Code
  | 0 :: r, .seq a _ => nav r a
  | 1 :: r, .seq _ b => nav r b
  | 2 :: r, .block _ c => nav r c
  | 3 :: r, .loop c => nav r c
  | _, c => c
theorem nav_0 (r : List Nat) (a b : Code) : nav (0 :: r) (.seq a b) = nav r a := rfl
theorem nav_1 (r : List Nat) (a b : Code) : nav (1 :: r) (.seq a b) = nav r b := rfl
theorem nav_2 (r : List Nat) (i : Nat) (c : Code) : nav (2 :: r) (.block i c) = nav r c := rfl
theorem nav_3 (r : List Nat) (c : Code) : nav (3 :: r) (.loop c) = nav r c := rfl
theorem nav_n (c : Code) : nav [] c = c := by cases c <;> rfl
theorem get_mk (nt np : Nat) (env : List (Nat × AV)) (hp : List (Nat × Option Box)) (nx pk t : Nat) : (St.mk nt np env hp nx pk).get t = lkE env t := rfl
theorem box_mk (nt np : Nat) (env : List (Nat × AV)) (hp : List (Nat × Option Box)) (nx pk t : Nat) : (St.mk nt np env hp nx pk).box t = (lkB hp t).getD none := rfl
theorem lkE_c (k : Nat) (x : AV) (r : List (Nat × AV)) (t : Nat) : lkE ((k, x) :: r) t = bif k == t then x else lkE r t := rfl
theorem lkB_c (k : Nat) (x : Option Box) (r : List (Nat × Option Box)) (t : Nat) : lkB ((k, x) :: r) t = bif k == t then some x else lkB r t := rfl
theorem nt_mk (nt np : Nat) (env : List (Nat × AV)) (hp : List (Nat × Option Box)) (nx pk : Nat) : (St.mk nt np env hp nx pk).nt = nt := rfl
theorem gId_own (b n : Nat) (f : Bool) : gId (.c (.own b n f)) = b := rfl
attribute [go_sem] vxC_le vxC_inj vxC_minj vxC_dec vxC_ds vxC_len vxC_takeN vxC_takeA vxC_dropA vxC_takeB vxC_dropB vxC_dropN vxC_all vxC_strip vxC_seal vxC_ren vxC_exp vxC_map vxC_gat vxC_rok vxC_row vxC_eok vxC_sok vxC_okR vxC_okR0 vxC_okC vxC_mk vxC_m0 nav_0 nav_1
attribute [go_sem] nav_2 nav_3 nav_n get_mk box_mk lkE_c lkB_c nt_mk gId_own
end Go.Proofs.YthphndhiacikaaaDoor
end
section
set_option maxRecDepth 100000
set_option linter.unusedSimpArgs false
set_option linter.unusedVariables false
namespace Go.Proofs.YthphndhiacikaaaDoor
open Go Go.VE
end Go.Proofs.YthphndhiacikaaaDoor
end
section
set_option maxRecDepth 100000
set_option linter.unusedSimpArgs false
set_option linter.unusedVariables false
namespace Go.Proofs.YthphndhiacikaaaDoor
open Go Go.VE
def spClipX_A : List Vx → List AV := fun l => [.c (.own 0 l.length false)]
def spClipX_B : List Vx → List Box := fun l => [⟨l.map vxC, 2, 43, true, false⟩]
def spClipX_d : List AV → List Box → Option (List Vx)
  | [.c (.own 0 _ false)], [⟨es, _, _, _, _⟩] => decAll vxCd es
  | _, _ => none
def spClipX_pre : List Vx → Prop := fun l => l.length ≤ 1000000000
def spClipX_post : List Vx → AV → List Box → Prop := fun l r bs => r = .c (.own 0 (l).length true) ∧ bs = [⟨(l).map vxC, 2, 43, true, false⟩]
def spClipX : VE.Spec := famSpecM spClipX_A spClipX_B spClipX_d spClipX_pre spClipX_post 0 false [true] false
theorem spClipX_q : spClipX.flat = false ∧ spClipX.mt = [true] ∧ spClipX.shut = false ∧ spClipX.cost = 0 ∧ (∀ a i, spClipX.pre a i = (famPreM spClipX_d spClipX_A spClipX_B spClipX_pre a i)) ∧ ∀ a i r b, spClipX.post a i r b = (famPostM spClipX_d spClipX_post a i r b) := ⟨rfl, rfl, rfl, rfl, fun _ _ => rfl, fun _ _ _ _ => rfl⟩
def tb34x : Nat → Option VE.Spec := tabOf []
theorem tb34x_ok : TabOK Tryd.prog rt0 tb34x := tabOf_nil
set_option maxHeartbeats 4000000 in
theorem satX_slices_Clip_impl_Verb_impl_Verb_0 : Sat Tryd.prog rt0 34 spClipX := by
  refine fn_sat hm ttok (tab := tb34x) tb34x_ok Tryd.func34 (c := Tryd.f34.body.getD .skip) (by kernel_rfl) (ts := [.tmp 2]) (by kernel_rfl) Tryd.ntmps34 (sq := fun _ => true) (by kernel_rfl) ?_
  intro args ins pk hpre0 hpk
  obtain ⟨l, rfl, rfl, hpre, hdec⟩ := famPreM_ex hpre0
  clear hpre0 hdec
  try simp only [spClipX_pre] at hpre
  replace hpk : pk + 0 ≤ pickLimit := hpk
  refine ⟨Nat.le_of_ble_eq_true rfl, ?_⟩
  simp (config := { maxSteps := 1000000 }) only [go_sem, ↓ifP_true, ↓ifP_false, ↓ifP_not, Nat.reduceLT, Nat.reduceAdd, Nat.reduceBEq, Nat.reduceSub, Nat.reduceLeDiff, Nat.reduceEqDiff, Nat.reduceMul, Int.reduceToNat, Int.reduceEq, Int.reduceLT, Int.reduceLE, Int.reduceAdd, Int.reduceSub, Int.reduceMul, reduceCtorEq, cond_true, cond_false, forall_eq', forall_eq, forall_const, implies_true, if_true, if_false, exists_eq_left', exists_eq', exists_eq, ne_eq, Tryd.f34, spClipX_q, spClipX_A, spClipX_B, spClipX_d, spClipX_pre, spClipX_post]
  repeat' (first | apply And.intro | (intro _) | omega | assumption | with_reducible rfl)
  all_goals (first | (omega; done))
theorem satX_slices_Clip_impl_Verb_impl_Verb : Sat Tryd.prog rt0 34 (wkIn spClipX) := sat_in satX_slices_Clip_impl_Verb_impl_Verb_0
end Go.Proofs.YthphndhiacikaaaDoor
end
section
set_option maxRecDepth 100000
set_option linter.unusedSimpArgs false
set_option linter.unusedVariables false
namespace Go.Proofs.YthphndhiacikaaaDoor
open Go Go.VE
set_option maxHeartbeats 4000000 in
theorem pA (x w : ByteArray) (L : List ByteArray) (i : Int) (h0 : 0 ≤ i) (hlt : (i < (L.length : Int)) = True) (hk : L[i.toNat]? = some w) (hL : L.length ≤ 801) (hw : w.size ≤ 800) (l : List Vx) (hl : l.length ≤ 801) (h1 : (w.size : Int) = 1) (h2 : 0 ≤ Lib.index [77, 76, 81, 67, 90] (tx w)) : runW (ttOf tys) tb13 Ent (dwS (ttOf tys) tb13 fun _ => true) (nav [1, 1, 1, 1, 0, 1, 2, 3] (Tryd.f13.body.getD .skip)) ⟨103, 1, [(0, .c (.v (.string x))), (4, .c (.own 0 l.length false)), (22, .c (.sl false (L.map sC))), (23, I L.length), (24, I i)], [(0, some ⟨l.map vxC, 2, 43, true, false⟩)], 1, 0⟩ (seqK (fun _ _ => False) fun s' => s'.nt = 103 ∧ s'.get 0 = .c (.v (.string x)) ∧ s'.get 22 = .c (.sl false (L.map sC)) ∧ s'.get 23 = I L.length ∧ s'.get 24 = I (i + 1) ∧ s'.get 4 = .c (.own (gId (s'.get 4)) (l.length + 1) false) ∧ s'.box (gId (s'.get 4)) = some ⟨(l ++ [(⟨Lib.index [77, 76, 81, 67, 90] (tx w), none⟩ : Vx)]).map vxC, 2, 43, true, false⟩) := by
  have hpk : 0 + 0 ≤ pickLimit := Nat.zero_le _
  have hlt2 := of_eq_true hlt
  simp (config := { maxSteps := 1000000 }) only [go_sem, ↓ifP_true, ↓ifP_false, ↓ifP_not, Nat.reduceLT, Nat.reduceAdd, Nat.reduceBEq, Nat.reduceSub, Nat.reduceLeDiff, Nat.reduceEqDiff, Nat.reduceMul, Int.reduceToNat, Int.reduceEq, Int.reduceLT, Int.reduceLE, Int.reduceAdd, Int.reduceSub, Int.reduceMul, reduceCtorEq, cond_true, cond_false, forall_eq', forall_eq, forall_const, implies_true, if_true, if_false, exists_eq_left', exists_eq', exists_eq, ne_eq, Tryd.f13, tb13_29, tb13_30, tb13_31, tb13_32, tb13_33, tb13_12, tb13_9, tb13_34, spSplitW_q, spSplitW_A, spSplitW_pre, spSplitW_post, spIndexS_q, spIndexS_A, spIndexS_pre, spIndexS_post, spCutS_q, spCutS_A, spCutS_pre, spCutS_post, spAtoi_q, spAtoi_A, spAtoi_pre, spAtoi_post, spCloneT_q, spCloneT_A, spCloneT_pre, spCloneT_post, spVPath_q, spVPath_A, spVPath_pre, spVPath_post, spFmt_q, spFmt_A, spFmt_pre, spFmt_post, spClipV_q, spClipV_A, spClipV_B, spClipV_d, spClipV_pre, spClipV_post, hlt, hk, tx_mk, tx_letters, tx_comma]
  repeat' (first | apply And.intro | (intro _) | omega | assumption | with_reducible rfl)
  all_goals (first | (omega; done) | (decide; done) | ((rw [List.map_append]; rfl); done) | (skip; done))
set_option maxHeartbeats 4000000 in
theorem pX (x : ByteArray) (L : List ByteArray) (i : Int) (hlt : (i < (L.length : Int)) = False) (l : List Vx) : runW (ttOf tys) tb13 Ent (dwS (ttOf tys) tb13 fun _ => true) (nav [1, 1, 1, 1, 0, 1, 2, 3] (Tryd.f13.body.getD .skip)) ⟨103, 1, [(0, .c (.v (.string x))), (4, .c (.own 0 l.length false)), (22, .c (.sl false (L.map sC))), (23, I L.length), (24, I i)], [(0, some ⟨l.map vxC, 2, 43, true, false⟩)], 1, 0⟩ (seqK (fun e s' => e = .exit 0 ∧ s'.nt = 103 ∧ s'.get 0 = .c (.v (.string x)) ∧ s'.get 4 = .c (.own 0 l.length false) ∧ s'.box 0 = some ⟨l.map vxC, 2, 43, true, false⟩) fun s' => False) := by
  have hpk : 0 + 0 ≤ pickLimit := Nat.zero_le _
  simp (config := { maxSteps := 1000000 }) only [go_sem, ↓ifP_true, ↓ifP_false, ↓ifP_not, Nat.reduceLT, Nat.reduceAdd, Nat.reduceBEq, Nat.reduceSub, Nat.reduceLeDiff, Nat.reduceEqDiff, Nat.reduceMul, Int.reduceToNat, Int.reduceEq, Int.reduceLT, Int.reduceLE, Int.reduceAdd, Int.reduceSub, Int.reduceMul, reduceCtorEq, cond_true, cond_false, forall_eq', forall_eq, forall_const, implies_true, if_true, if_false, exists_eq_left', exists_eq', exists_eq, ne_eq, Tryd.f13, tb13_29, tb13_30, tb13_31, tb13_32, tb13_33, tb13_12, tb13_9, tb13_34, spSplitW_q, spSplitW_A, spSplitW_pre, spSplitW_post, spIndexS_q, spIndexS_A, spIndexS_pre, spIndexS_post, spCutS_q, spCutS_A, spCutS_pre, spCutS_post, spAtoi_q, spAtoi_A, spAtoi_pre, spAtoi_post, spCloneT_q, spCloneT_A, spCloneT_pre, spCloneT_post, spVPath_q, spVPath_A, spVPath_pre, spVPath_post, spFmt_q, spFmt_A, spFmt_pre, spFmt_post, spClipV_q, spClipV_A, spClipV_B, spClipV_d, spClipV_pre, spClipV_post, hlt]
  repeat' (first | apply And.intro | (intro _) | omega | assumption | with_reducible rfl)
  all_goals (first | (omega; done) | (skip; done))
end Go.Proofs.YthphndhiacikaaaDoor
end
section
set_option maxRecDepth 100000
set_option linter.unusedSimpArgs false
set_option linter.unusedVariables false
namespace Go.Proofs.YthphndhiacikaaaDoor
open Go Go.VE
set_option maxHeartbeats 4000000 in
theorem pB (x w : ByteArray) (L : List ByteArray) (i : Int) (h0 : 0 ≤ i) (hlt : (i < (L.length : Int)) = True) (hk : L[i.toNat]? = some w) (hL : L.length ≤ 801) (hw : w.size ≤ 800)(hn : ¬ ((w.size : Int) = 1 ∧ 0 ≤ Lib.index [77, 76, 81, 67, 90] (tx w))) (a b : Int) (hc : (Lib.cut (tx w) [44]).2.2 = true) (ha : Lib.atoiAll (Lib.cut (tx w) [44]).1 = .ok a) (hb : Lib.atoiAll (Lib.cut (tx w) [44]).2.1 = .ok b) (ES : List (List C)) (k0 : Int) (q : List Pt) (hES : 1 ≤ ES.length ∧ ES.length ≤ 801) (hq : q.length ≤ 801) (hE : ES[((ES.length : Int) - 1).toNat]? = some [C.v (.int .i64 k0), C.sl true (q.map ptC)]) : runW (ttOf tys) tb13 Ent (dwS (ttOf tys) tb13 fun _ => true) (nav [1, 1, 1, 1, 0, 1, 2, 3] (Tryd.f13.body.getD .skip)) ⟨103, 1, [(0, .c (.v (.string x))), (4, .c (.own 0 ES.length false)), (22, .c (.sl false (L.map sC))), (23, I L.length), (24, I i)], [(0, some ⟨ES, 2, 43, false, false⟩)], 1, 0⟩ (seqK (fun _ _ => False) fun s' => s'.nt = 103 ∧ s'.get 0 = .c (.v (.string x)) ∧ s'.get 22 = .c (.sl false (L.map sC)) ∧ s'.get 23 = I L.length ∧ s'.get 24 = I (i + 1) ∧ s'.get 4 = .c (.own 0 ES.length false) ∧ ∃ nb, s'.box 0 = some ⟨ES.set ((ES.length : Int) - 1).toNat [C.v (.int .i64 k0), C.own nb (q.length + 1) true], 2, 43, false, false⟩ ∧ s'.box nb = some ⟨(q ++ [(⟨a, b⟩ : Pt)]).map ptC, 2, 47, true, false⟩) := by
  have hpk : 0 + 0 ≤ pickLimit := Nat.zero_le _
  have hlt2 := of_eq_true hlt
  have hcl := cut_few (tx w) [44]
  have htw := tx_len w
  simp (config := { maxSteps := 1000000 }) only [go_sem, ↓ifP_true, ↓ifP_false, ↓ifP_not, Nat.reduceLT, Nat.reduceAdd, Nat.reduceBEq, Nat.reduceSub, Nat.reduceLeDiff, Nat.reduceEqDiff, Nat.reduceMul, Int.reduceToNat, Int.reduceEq, Int.reduceLT, Int.reduceLE, Int.reduceAdd, Int.reduceSub, Int.reduceMul, reduceCtorEq, cond_true, cond_false, forall_eq', forall_eq, forall_const, implies_true, if_true, if_false, exists_eq_left', exists_eq', exists_eq, ne_eq, Tryd.f13, tb13_29, tb13_30, tb13_31, tb13_32, tb13_33, tb13_12, tb13_9, tb13_34, spSplitW_q, spSplitW_A, spSplitW_pre, spSplitW_post, spIndexS_q, spIndexS_A, spIndexS_pre, spIndexS_post, spCutS_q, spCutS_A, spCutS_pre, spCutS_post, spAtoi_q, spAtoi_A, spAtoi_pre, spAtoi_post, spCloneT_q, spCloneT_A, spCloneT_pre, spCloneT_post, spVPath_q, spVPath_A, spVPath_pre, spVPath_post, spFmt_q, spFmt_A, spFmt_pre, spFmt_post, spClipV_q, spClipV_A, spClipV_B, spClipV_d, spClipV_pre, spClipV_post, hlt, hk, tx_mk, tx_letters, tx_comma, hE, hc, ha, hb, mkB_size, Lib.NumEnd.ok.injEq, not_true_eq_false, not_false_eq_true]
  repeat' (first | apply And.intro | (intro _) | omega | assumption | with_reducible rfl)
  all_goals (first | (omega; done) | (decide; done) | ((exact absurd ⟨‹_›, ‹_›⟩ hn); done) | ((exact ⟨_, rfl, rfl⟩); done) | (skip; done))
end Go.Proofs.YthphndhiacikaaaDoor
end
section
set_option maxRecDepth 100000
set_option linter.unusedSimpArgs false
set_option linter.unusedVariables false
namespace Go.Proofs.YthphndhiacikaaaDoor
open Go Go.VE
set_option maxHeartbeats 4000000 in
theorem pH0 (x : ByteArray) : runW (ttOf tys) tb13 Ent (dwS (ttOf tys) tb13 fun _ => true) (nav [0] (Tryd.f13.body.getD .skip)) ⟨103, 0, [(0, .c (.v (.string x)))], [], 0, 0⟩ (seqK (fun _ _ => False) fun s' => s'.nt = 103 ∧ s'.get 0 = .c (.v (.string x))) := by
  have hpk : 0 + 0 ≤ pickLimit := Nat.zero_le _
  simp (config := { maxSteps := 1000000 }) only [go_sem, ↓ifP_true, ↓ifP_false, ↓ifP_not, Nat.reduceLT, Nat.reduceAdd, Nat.reduceBEq, Nat.reduceSub, Nat.reduceLeDiff, Nat.reduceEqDiff, Nat.reduceMul, Int.reduceToNat, Int.reduceEq, Int.reduceLT, Int.reduceLE, Int.reduceAdd, Int.reduceSub, Int.reduceMul, reduceCtorEq, cond_true, cond_false, forall_eq', forall_eq, forall_const, implies_true, if_true, if_false, exists_eq_left', exists_eq', exists_eq, ne_eq, Tryd.f13, tb13_29, tb13_30, tb13_31, tb13_32, tb13_33, tb13_12, tb13_9, tb13_34, spSplitW_q, spSplitW_A, spSplitW_pre, spSplitW_post, spIndexS_q, spIndexS_A, spIndexS_pre, spIndexS_post, spCutS_q, spCutS_A, spCutS_pre, spCutS_post, spAtoi_q, spAtoi_A, spAtoi_pre, spAtoi_post, spCloneT_q, spCloneT_A, spCloneT_pre, spCloneT_post, spVPath_q, spVPath_A, spVPath_pre, spVPath_post, spFmt_q, spFmt_A, spFmt_pre, spFmt_post, spClipV_q, spClipV_A, spClipV_B, spClipV_d, spClipV_pre, spClipV_post]
  repeat' (first | apply And.intro | (intro _) | omega | assumption | with_reducible rfl)
  all_goals (first | (skip; done))
set_option maxHeartbeats 4000000 in
theorem pH1 (x : ByteArray) (h1 : ¬ x = ⟨#[]⟩) : runW (ttOf tys) tb13 Ent (dwS (ttOf tys) tb13 fun _ => true) (nav [1, 0] (Tryd.f13.body.getD .skip)) ⟨103, 0, [(0, .c (.v (.string x)))], [], 0, 0⟩ (seqK (fun _ _ => False) fun s' => s'.nt = 103 ∧ s'.get 0 = .c (.v (.string x))) := by
  have hpk : 0 + 0 ≤ pickLimit := Nat.zero_le _
  simp (config := { maxSteps := 1000000 }) only [go_sem, ↓ifP_true, ↓ifP_false, ↓ifP_not, Nat.reduceLT, Nat.reduceAdd, Nat.reduceBEq, Nat.reduceSub, Nat.reduceLeDiff, Nat.reduceEqDiff, Nat.reduceMul, Int.reduceToNat, Int.reduceEq, Int.reduceLT, Int.reduceLE, Int.reduceAdd, Int.reduceSub, Int.reduceMul, reduceCtorEq, cond_true, cond_false, forall_eq', forall_eq, forall_const, implies_true, if_true, if_false, exists_eq_left', exists_eq', exists_eq, ne_eq, Tryd.f13, tb13_29, tb13_30, tb13_31, tb13_32, tb13_33, tb13_12, tb13_9, tb13_34, spSplitW_q, spSplitW_A, spSplitW_pre, spSplitW_post, spIndexS_q, spIndexS_A, spIndexS_pre, spIndexS_post, spCutS_q, spCutS_A, spCutS_pre, spCutS_post, spAtoi_q, spAtoi_A, spAtoi_pre, spAtoi_post, spCloneT_q, spCloneT_A, spCloneT_pre, spCloneT_post, spVPath_q, spVPath_A, spVPath_pre, spVPath_post, spFmt_q, spFmt_A, spFmt_pre, spFmt_post, spClipV_q, spClipV_A, spClipV_B, spClipV_d, spClipV_pre, spClipV_post]
  repeat' (first | apply And.intro | (intro _) | omega | assumption | with_reducible rfl)
  all_goals (first | ((exact absurd ‹_› ‹_›); done) | (skip; done))
set_option maxHeartbeats 4000000 in
theorem pH2 (x : ByteArray) (h2 : ¬ (800 : Int) < x.size) : runW (ttOf tys) tb13 Ent (dwS (ttOf tys) tb13 fun _ => true) (nav [1, 1, 0] (Tryd.f13.body.getD .skip)) ⟨103, 0, [(0, .c (.v (.string x)))], [], 0, 0⟩ (seqK (fun _ _ => False) fun s' => s'.nt = 103 ∧ s'.get 0 = .c (.v (.string x))) := by
  have hpk : 0 + 0 ≤ pickLimit := Nat.zero_le _
  simp (config := { maxSteps := 1000000 }) only [go_sem, ↓ifP_true, ↓ifP_false, ↓ifP_not, Nat.reduceLT, Nat.reduceAdd, Nat.reduceBEq, Nat.reduceSub, Nat.reduceLeDiff, Nat.reduceEqDiff, Nat.reduceMul, Int.reduceToNat, Int.reduceEq, Int.reduceLT, Int.reduceLE, Int.reduceAdd, Int.reduceSub, Int.reduceMul, reduceCtorEq, cond_true, cond_false, forall_eq', forall_eq, forall_const, implies_true, if_true, if_false, exists_eq_left', exists_eq', exists_eq, ne_eq, Tryd.f13, tb13_29, tb13_30, tb13_31, tb13_32, tb13_33, tb13_12, tb13_9, tb13_34, spSplitW_q, spSplitW_A, spSplitW_pre, spSplitW_post, spIndexS_q, spIndexS_A, spIndexS_pre, spIndexS_post, spCutS_q, spCutS_A, spCutS_pre, spCutS_post, spAtoi_q, spAtoi_A, spAtoi_pre, spAtoi_post, spCloneT_q, spCloneT_A, spCloneT_pre, spCloneT_post, spVPath_q, spVPath_A, spVPath_pre, spVPath_post, spFmt_q, spFmt_A, spFmt_pre, spFmt_post, spClipV_q, spClipV_A, spClipV_B, spClipV_d, spClipV_pre, spClipV_post]
  repeat' (first | apply And.intro | (intro _) | omega | assumption | with_reducible rfl)
  all_goals (first | (omega; done) | (skip; done))
set_option maxHeartbeats 4000000 in
theorem pH3 (x : ByteArray) : runW (ttOf tys) tb13 Ent (dwS (ttOf tys) tb13 fun _ => true) (nav [1, 1, 1, 0] (Tryd.f13.body.getD .skip)) ⟨103, 0, [(0, .c (.v (.string x)))], [], 0, 0⟩ (seqK (fun _ _ => False) fun s' => s'.nt = 103 ∧ s'.get 0 = .c (.v (.string x)) ∧ s'.get 4 = .c (.own (gId (s'.get 4)) 0 false) ∧ s'.box (gId (s'.get 4)) = some ⟨([] : List Vx).map vxC, 2, 43, true, false⟩) := by
  have hpk : 0 + 0 ≤ pickLimit := Nat.zero_le _
  simp (config := { maxSteps := 1000000 }) only [go_sem, ↓ifP_true, ↓ifP_false, ↓ifP_not, Nat.reduceLT, Nat.reduceAdd, Nat.reduceBEq, Nat.reduceSub, Nat.reduceLeDiff, Nat.reduceEqDiff, Nat.reduceMul, Int.reduceToNat, Int.reduceEq, Int.reduceLT, Int.reduceLE, Int.reduceAdd, Int.reduceSub, Int.reduceMul, reduceCtorEq, cond_true, cond_false, forall_eq', forall_eq, forall_const, implies_true, if_true, if_false, exists_eq_left', exists_eq', exists_eq, ne_eq, Tryd.f13, tb13_29, tb13_30, tb13_31, tb13_32, tb13_33, tb13_12, tb13_9, tb13_34, spSplitW_q, spSplitW_A, spSplitW_pre, spSplitW_post, spIndexS_q, spIndexS_A, spIndexS_pre, spIndexS_post, spCutS_q, spCutS_A, spCutS_pre, spCutS_post, spAtoi_q, spAtoi_A, spAtoi_pre, spAtoi_post, spCloneT_q, spCloneT_A, spCloneT_pre, spCloneT_post, spVPath_q, spVPath_A, spVPath_pre, spVPath_post, spFmt_q, spFmt_A, spFmt_pre, spFmt_post, spClipV_q, spClipV_A, spClipV_B, spClipV_d, spClipV_pre, spClipV_post]
  repeat' (first | apply And.intro | (intro _) | omega | assumption | with_reducible rfl)
  all_goals (first | (rfl; done) | (skip; done))
set_option maxHeartbeats 4000000 in
theorem pW (x : ByteArray) (h2 : ¬ (800 : Int) < x.size) : runW (ttOf tys) tb13 Ent (dwS (ttOf tys) tb13 fun _ => true) (nav [1, 1, 1, 1, 0, 0] (Tryd.f13.body.getD .skip)) ⟨103, 1, [(0, .c (.v (.string x))), (4, .c (.own 0 0 false))], [(0, some ⟨[], 2, 43, true, false⟩)], 1, 0⟩ (seqK (fun _ _ => False) fun s' => s'.nt = 103 ∧ s'.get 0 = .c (.v (.string x)) ∧ s'.get 4 = .c (.own 0 0 false) ∧ s'.box 0 = some ⟨([] : List Vx).map vxC, 2, 43, true, false⟩ ∧ ∃ L : List ByteArray, s'.get 22 = .c (.sl false (L.map sC)) ∧ s'.get 23 = I L.length ∧ s'.get 24 = I 0 ∧ L.map tx = spl 32 (tx x)) := by
  have hpk : 0 + 0 ≤ pickLimit := Nat.zero_le _
  simp (config := { maxSteps := 1000000 }) only [go_sem, ↓ifP_true, ↓ifP_false, ↓ifP_not, Nat.reduceLT, Nat.reduceAdd, Nat.reduceBEq, Nat.reduceSub, Nat.reduceLeDiff, Nat.reduceEqDiff, Nat.reduceMul, Int.reduceToNat, Int.reduceEq, Int.reduceLT, Int.reduceLE, Int.reduceAdd, Int.reduceSub, Int.reduceMul, reduceCtorEq, cond_true, cond_false, forall_eq', forall_eq, forall_const, implies_true, if_true, if_false, exists_eq_left', exists_eq', exists_eq, ne_eq, Tryd.f13, tb13_29, tb13_30, tb13_31, tb13_32, tb13_33, tb13_12, tb13_9, tb13_34, spSplitW_q, spSplitW_A, spSplitW_pre, spSplitW_post, spIndexS_q, spIndexS_A, spIndexS_pre, spIndexS_post, spCutS_q, spCutS_A, spCutS_pre, spCutS_post, spAtoi_q, spAtoi_A, spAtoi_pre, spAtoi_post, spCloneT_q, spCloneT_A, spCloneT_pre, spCloneT_post, spVPath_q, spVPath_A, spVPath_pre, spVPath_post, spFmt_q, spFmt_A, spFmt_pre, spFmt_post, spClipV_q, spClipV_A, spClipV_B, spClipV_d, spClipV_pre, spClipV_post]
  repeat' (first | apply And.intro | (intro _) | omega | assumption | with_reducible rfl)
  all_goals (first | (omega; done) | ((exact ⟨_, rfl, rfl, ‹_›⟩); done) | (rfl; done) | (skip; done))
def tbT (V : Value) (x : ByteArray) : Nat → Option VE.Spec := tabOf [(12, exS [.c (.v V)] (.c (.v (.bool true)))), (9, exS [.c (.v V)] (.c (.v (.string x))))]
theorem tbT_1 (V : Value) (x : ByteArray) : tbT V x 12 = some (exS [.c (.v V)] (.c (.v (.bool true)))) := rfl
theorem tbT_2 (V : Value) (x : ByteArray) : tbT V x 9 = some (exS [.c (.v V)] (.c (.v (.string x)))) := rfl
theorem exS_q (A : List AV) (r : AV) : (exS A r).flat = true ∧ (exS A r).mt = [] ∧ (exS A r).shut = false ∧ (exS A r).cost = 0 ∧ (∀ a i, (exS A r).pre a i = (i = [] ∧ a = A)) ∧ ∀ a i r' b, (exS A r).post a i r' b = (r' = r ∧ b = []) := ⟨rfl, rfl, rfl, rfl, fun _ _ => rfl, fun _ _ _ _ => rfl⟩
def tbC : Nat → Option VE.Spec := tabOf [(34, spClipX)]
theorem tbC_1 : tbC 34 = some spClipX := rfl
theorem tbC_ok : TabOK Tryd.prog rt0 tbC := tabOf_cons (by kernel_rfl) satX_slices_Clip_impl_Verb_impl_Verb_0 tabOf_nil
set_option maxHeartbeats 4000000 in
theorem pT (x : ByteArray) (g n c : Nat) : runW (ttOf tys) (tbT (.slice (some ⟨g, 0, none⟩) n c) x) Ent (dwS (ttOf tys) (tbT (.slice (some ⟨g, 0, none⟩) n c) x) fun _ => true) (nav [1, 1, 1, 1, 1, 0] (Tryd.f13.body.getD .skip)) ⟨103, 0, [(0, .c (.v (.string x))), (4, .c (.v (.slice (some ⟨g, 0, none⟩) n c)))], [], 0, 0⟩ (seqK (fun _ _ => False) fun s' => s'.nt = 103 ∧ s'.get 4 = .c (.v (.slice (some ⟨g, 0, none⟩) n c))) := by
  have hpk : 0 + 0 ≤ pickLimit := Nat.zero_le _
  simp (config := { maxSteps := 1000000 }) only [go_sem, ↓ifP_true, ↓ifP_false, ↓ifP_not, Nat.reduceLT, Nat.reduceAdd, Nat.reduceBEq, Nat.reduceSub, Nat.reduceLeDiff, Nat.reduceEqDiff, Nat.reduceMul, Int.reduceToNat, Int.reduceEq, Int.reduceLT, Int.reduceLE, Int.reduceAdd, Int.reduceSub, Int.reduceMul, reduceCtorEq, cond_true, cond_false, forall_eq', forall_eq, forall_const, implies_true, if_true, if_false, exists_eq_left', exists_eq', exists_eq, ne_eq, Tryd.f13, tbT_1, tbT_2, exS_q]
  repeat' (first | apply And.intro | (intro _) | omega | assumption | with_reducible rfl)
  all_goals (first | (omega; done) | (skip; done))
set_option maxHeartbeats 4000000 in
theorem pR (l : List Vx) (hl : l.length ≤ 1000000) : runW (ttOf tys) tbC Ent (dwS (ttOf tys) tbC fun _ => true) (nav [1, 1, 1, 1, 1, 1] (Tryd.f13.body.getD .skip)) ⟨103, 1, [(4, .c (.own 0 l.length false))], [(0, some ⟨l.map vxC, 2, 43, true, false⟩)], 1, 0⟩ (seqK (fun e s' => e = .ret ∧ s'.get 3 = .c (.v (.bool true)) ∧ s'.get 2 = .c (.own 0 l.length true) ∧ s'.box 0 = some ⟨l.map vxC, 2, 43, true, false⟩) fun s' => False) := by
  have hpk : 0 + 0 ≤ pickLimit := Nat.zero_le _
  simp (config := { maxSteps := 1000000 }) only [go_sem, ↓ifP_true, ↓ifP_false, ↓ifP_not, Nat.reduceLT, Nat.reduceAdd, Nat.reduceBEq, Nat.reduceSub, Nat.reduceLeDiff, Nat.reduceEqDiff, Nat.reduceMul, Int.reduceToNat, Int.reduceEq, Int.reduceLT, Int.reduceLE, Int.reduceAdd, Int.reduceSub, Int.reduceMul, reduceCtorEq, cond_true, cond_false, forall_eq', forall_eq, forall_const, implies_true, if_true, if_false, exists_eq_left', exists_eq', exists_eq, ne_eq, Tryd.f13, tbC_1, spClipX_q, spClipX_A, spClipX_B, spClipX_d, spClipX_pre, spClipX_post]
  repeat' (first | apply And.intro | (intro _) | omega | assumption | with_reducible rfl)
  all_goals (first | (omega; done) | (skip; done))
end Go.Proofs.YthphndhiacikaaaDoor
end
section
set_option maxRecDepth 100000
set_option linter.unusedSimpArgs false
set_option linter.unusedVariables false
namespace Go.Proofs.YthphndhiacikaaaDoor
open Go Go.VE
/-! A path whose verbs keep their points in blocks of their own. -/
structure Nd where
  k : Int
  g : Option Nat
  ps : List Pt
def Nd.vx (d : Nd) : Vx := ⟨d.k, d.g.map fun g => (g, d.ps.length)⟩
def Nd.vb (d : Nd) : Verb := ⟨d.k, d.ps⟩
def Inn (w : World) (lo : Nat) (d : Nd) : Prop := (d.g = none ∧ d.ps = []) ∨ ∃ g cp, d.g = some g ∧ lo ≤ g ∧ Row w (some g) cp ⟨d.ps.map ptC, 2, 47, true, false⟩
structure Nest (w : World) (lo : Nat) (go : Option Nat) (N : List Nd) : Prop where
  inn : ∀ d ∈ N, Inn w lo d
  out : ∀ d ∈ N, ∀ g, d.g = some g → go ≠ some g
  inj : ∀ (i j : Nat) (di dj : Nd) (g : Nat), N[i]? = some di → N[j]? = some dj → di.g = some g → dj.g = some g → i = j
structure Top (w : World) (lo : Nat) (v : Value) (f : Bool) (go : Option Nat) (cp : Nat) (N : List Nd) : Prop where
  h : hV go cp 2 (.own 0 N.length f) v
  row : Row w go cp ⟨(N.map Nd.vx).map vxC, 2, 43, true, false⟩
  nest : Nest w lo go N
  lo : ∀ g, go = some g → lo ≤ g
theorem Inn.lt {w : World} {lo : Nat} {d : Nd} {g : Nat} (h : Inn w lo d) (hg : d.g = some g) : g < w.heap.size ∧ lo ≤ g := by
  rcases h with ⟨h, _⟩ | ⟨g', cp, h1, h2, h3⟩
  · rw [h] at hg; cases hg
  · rw [h1] at hg; cases hg; exact ⟨BoxOK0.lt h3 rfl, h2⟩
theorem Inn.keep {w w' : World} {lo : Nat} {M : Nat → Prop} {d : Nd} (h : Inn w lo d) (hk : Keeps M w w') (hM : ∀ g, d.g = some g → ¬ M g) : Inn w' lo d := by
  rcases h with h | ⟨g', cp, h1, h2, h3⟩
  · exact .inl h
  · exact .inr ⟨g', cp, h1, h2, h3.keep hk fun g hg => hM g (h1.trans hg)⟩
theorem Top.keep {w w' : World} {lo : Nat} {M : Nat → Prop} {v : Value} {f : Bool} {go : Option Nat} {cp : Nat} {N : List Nd} (h : Top w lo v f go cp N) (hk : Keeps M w w') (hM : ∀ g, g < w.heap.size → lo ≤ g → ¬ M g) : Top w' lo v f go cp N :=
  ⟨h.h, h.row.keep hk fun g hg => hM g (BoxOK0.lt h.row hg) (h.lo g hg), ⟨fun d hd => (h.nest.inn d hd).keep hk fun g hg => hM g ((h.nest.inn d hd).lt hg).1 ((h.nest.inn d hd).lt hg).2, h.nest.out, h.nest.inj⟩, h.lo⟩
theorem okX_vx (x : Vx) : ∀ c ∈ vxC x, okX c := by
  obtain ⟨k, _ | ⟨g, n⟩⟩ := x <;> intro c hc <;> simp [vxC, vxP] at hc <;> rcases hc with rfl | rfl <;> trivial
theorem pureX_vx (l : List Vx) : pureX (l.map vxC) := by
  intro e he
  obtain ⟨x, _, rfl⟩ := List.mem_map.1 he
  exact okX_vx x
theorem pureX_pt (l : List Pt) : pureX (l.map ptC) := by
  intro e he c hc
  obtain ⟨x, _, rfl⟩ := List.mem_map.1 he
  simp [ptC] at hc
  rcases hc with rfl | rfl <;> trivial
/-- The points of a verb, read. -/
theorem Inn.rc {w : World} {lo : Nat} {d : Nd} {Mt : Nat → Prop} {v : Value} (h : Inn w lo d) (hv : MV v (vxP d.vx.g)) (hM : ∀ g, d.g = some g → ¬ Mt g) : RC w Mt v (.sl true (d.ps.map ptC)) := by
  rcases h with ⟨h1, h2⟩ | ⟨g, cp, h1, h2, h3⟩
  · rw [Nd.vx, h1] at hv
    rw [h2]
    rcases hv with ⟨x, hx, _⟩ | ⟨_, a, rfl⟩
    · cases hx
    · exact rcnil
  · rw [Nd.vx, h1] at hv
    rcases hv with ⟨x, hx, rfl, _⟩ | ⟨hx, _⟩
    · cases hx
      have hl : d.ps.length ≤ cp := by
        rcases h3 with ⟨q, _⟩ | ⟨g', cur, _, _, _, q, _⟩
        · cases q
        · simpa using q
      refine Row.rc (go := some g) (cp := cp) (k := 2) (n := d.ps.length) (.inr ⟨g, d.ps.length, rfl, rfl, Nat.le_refl _, hl, fun _ => rfl⟩) h3 (by simp) rfl (fun e he => ?_) (fun g' hg => hM g' (h1.trans hg)) (fun i j e c he hc => ⟨e, c, he, hc, fun v hv => hv.rc⟩)
      obtain ⟨p, _, rfl⟩ := List.mem_map.1 he
      rfl
    · cases hx
/-- The path, read. -/
theorem Top.rc {w : World} {lo : Nat} {v : Value} {f : Bool} {go : Option Nat} {cp : Nat} {N : List Nd} (h : Top w lo v f go cp N) {Mt : Nat → Prop} (hM : ∀ g, lo ≤ g → ¬ Mt g) : RC w Mt v (.sl false ((N.map Nd.vb).map vbC)) := by
  refine RC.weak (Row.rc (es' := (N.map Nd.vb).map vbC) h.h h.row (by simp) (by simp) (fun e he => ?_) (fun g hg => hM g (h.lo g hg)) (fun i j e c he hc => ?_)) (fun h => by cases h)
  · obtain ⟨p, _, rfl⟩ := List.mem_map.1 he
    rfl
  · simp only [List.getElem?_map, Option.map_map, Option.map_eq_some_iff] at he
    obtain ⟨d, hd, rfl⟩ := he
    have hi := h.nest.inn d (List.mem_of_getElem? hd)
    refine ⟨vxC d.vx, ?_⟩
    match j with
    | 0 =>
      simp [vbC] at hc
      subst hc
      exact ⟨.v (.int .i64 d.k), by simp [hd], rfl, fun v hv => hv.rc⟩
    | 1 =>
      simp [vbC] at hc
      subst hc
      exact ⟨vxP d.vx.g, by simp [hd], rfl, fun v hv => (hi.rc hv fun g hg => hM g (hi.lt hg).2).weak (fun h => by cases h)⟩
    | j + 2 => simp [vbC] at hc
theorem Nest.snoc0 {w : World} {lo : Nat} {go : Option Nat} {N : List Nd} (h : Nest w lo go N) (k : Int) : Nest w lo go (N ++ [⟨k, none, []⟩]) := by
  refine ⟨fun d hd => ?_, fun d hd g hg => ?_, fun i j di dj g h1 h2 h3 h4 => ?_⟩
  · rcases List.mem_append.1 hd with hd | hd
    · exact h.inn d hd
    · rw [List.mem_singleton] at hd; subst hd; exact .inl ⟨rfl, rfl⟩
  · rcases List.mem_append.1 hd with hd | hd
    · exact h.out d hd g hg
    · rw [List.mem_singleton] at hd; subst hd; cases hg
  · have key : ∀ (i : Nat) (d : Nd), (N ++ [(⟨k, none, []⟩ : Nd)])[i]? = some d → d.g = some g → N[i]? = some d := fun i d h5 h6 => by
      rw [List.getElem?_append] at h5
      split at h5
      · exact h5
      · have := List.mem_of_getElem? h5
        rw [List.mem_singleton] at this
        subst this; cases h6
    exact h.inj i j di dj g (key i di h1 h3) (key j dj h2 h4) h3 h4
theorem Nest.snoc1 {w : World} {lo : Nat} {go : Option Nat} {A : List Nd} (h : Nest w lo go A) {d : Nd} (hd : Inn w lo d) (ho : ∀ g, d.g = some g → go ≠ some g) (hn : ∀ e ∈ A, ∀ g, e.g = some g → d.g ≠ some g) : Nest w lo go (A ++ [d]) := by
  refine ⟨fun e he => ?_, fun e he g hg => ?_, fun i j di dj g h1 h2 h3 h4 => ?_⟩
  · rcases List.mem_append.1 he with he | he
    · exact h.inn e he
    · rw [List.mem_singleton] at he; subst he; exact hd
  · rcases List.mem_append.1 he with he | he
    · exact h.out e he g hg
    · rw [List.mem_singleton] at he; subst he; exact ho g hg
  · have key : ∀ (i : Nat) (e : Nd), (A ++ [d])[i]? = some e → (A[i]? = some e ∧ e ∈ A) ∨ (i = A.length ∧ e = d) := fun i e h5 => by
      rw [List.getElem?_append] at h5
      split at h5
      · exact .inl ⟨h5, List.mem_of_getElem? h5⟩
      · have hl := (List.getElem?_eq_some_iff.1 h5).1
        have := List.mem_of_getElem? h5
        rw [List.mem_singleton] at this
        simp at hl
        exact .inr ⟨by omega, this⟩
    rcases key i di h1 with ⟨a1, a2⟩ | ⟨a1, rfl⟩ <;> rcases key j dj h2 with ⟨b1, b2⟩ | ⟨b1, rfl⟩
    · exact h.inj i j di dj g a1 b1 h3 h4
    · exact absurd h4 (hn di a2 g h3)
    · exact absurd h3 (hn dj b2 g h4)
    · omega
theorem Nest.left {w : World} {lo : Nat} {go : Option Nat} {A B : List Nd} (h : Nest w lo go (A ++ B)) : Nest w lo go A :=
  ⟨fun d hd => h.inn d (List.mem_append_left _ hd), fun d hd => h.out d (List.mem_append_left _ hd), fun i j di dj g h1 h2 => h.inj i j di dj g (by rw [List.getElem?_append_left (List.getElem?_eq_some_iff.1 h1).1]; exact h1) (by rw [List.getElem?_append_left (List.getElem?_eq_some_iff.1 h2).1]; exact h2)⟩
theorem Nest.next {w w' : World} {lo : Nat} {go go' : Option Nat} {M : Nat → Prop} {N : List Nd} (h : Nest w lo go N) (hk : Keeps M w w') (hM : ∀ g, M g → go = some g) (hn : ∀ g, go' = some g → w.heap.size ≤ g ∨ go = some g) : Nest w' lo go' N :=
  ⟨fun d hd => (h.inn d hd).keep hk fun g hg hm => h.out d hd g hg (hM g hm), fun d hd g hg he => by
    rcases hn g he with h1 | h1
    · have := ((h.inn d hd).lt hg).1; omega
    · exact h.out d hd g hg h1, h.inj⟩
end Go.Proofs.YthphndhiacikaaaDoor
end
section
set_option maxRecDepth 100000
set_option linter.unusedSimpArgs false
set_option linter.unusedVariables false
namespace Go.Proofs.YthphndhiacikaaaDoor
open Go Go.VE
/-- The state of the reading, turn by turn. -/
structure PJ (x : ByteArray) (L : List ByteArray) (w0 : World) (i : Int) (N : List Nd) (a : Act) (w : World) : Prop where
  df : a.defers = []
  sz : a.tmps.size = 103
  t0 : a.tmps.getD 0 undef = .string x
  t23 : a.tmps.getD 23 undef = .int .i64 L.length
  t24 : a.tmps.getD 24 undef = .int .i64 i
  kp : Keeps noB w0 w
  top : ∃ go cp, Top w w0.heap.size (a.tmps.getD 4 undef) false go cp N ∧ RC w (fun g => go = some g) (a.tmps.getD 22 undef) (.sl false (L.map sC))
  i0 : 0 ≤ i ∧ i ≤ L.length
  pI : pI L i = some (N.map Nd.vb)
  bd : (N.length : Int) ≤ i ∧ (nPts (N.map Nd.vb) : Int) ≤ i
theorem PJ.cutA {x : ByteArray} {L : List ByteArray} {w0 : World} {i : Int} {N : List Nd} {a : Act} {w : World} (h : PJ x L w0 i N a w) (h0 : FrzOK rt0 w0) : ∃ go cp, Top w w0.heap.size (a.tmps.getD 4 undef) false go cp N ∧ Cut rt0 [(0, .c (.v (.string x))), (4, .c (.own 0 N.length false)), (22, .c (.sl false (L.map sC))), (23, I L.length), (24, I i)] [⟨(N.map Nd.vx).map vxC, 2, 43, true, false⟩] a w (fun _ => go) (fun _ => cp) := by
  obtain ⟨go, cp, ht, hr⟩ := h.top
  have hF : ∀ g ∈ rt0.F, go ≠ some g := fun g hg e => by have := ht.lo g e; have := h0.2 g hg; omega
  refine ⟨go, cp, ht, cut1 h.df (h0.keep h.kp fun g _ h => h) hF ?_ rfl (ht.row.mono fun v c hc => hc.mc)⟩
  refine .cons (ma_v h.t0 rfl) (.cons ?_ (.cons (ma_sl hr) (.cons (ma_v h.t23 rfl) (.cons (ma_v h.t24 rfl) .nil))))
  exact ma_own (bx := ⟨(N.map Nd.vx).map vxC, 2, 43, true, false⟩) rfl (by simp) ht.h
theorem nPts_snoc' (A : List Verb) (v : Verb) : nPts (A ++ [v]) = nPts A + v.ps.length := by simp [nPts]
/-- A letter. -/
theorem PJ.letter {x : ByteArray} {L : List ByteArray} {w0 : World} {i : Int} {N : List Nd} {a : Act} {w : World} (h : PJ x L w0 i N a w) (h0 : FrzOK rt0 w0) (hL : L.length ≤ 801 ∧ ∀ y ∈ L, y.size ≤ 800) {y : ByteArray} (hk : L[i.toNat]? = some y) (h1 : (y.size : Int) = 1) (h2 : 0 ≤ Lib.index [77, 76, 81, 67, 90] (tx y)) {Q : Exit → Act → World → Prop} :
    (nav [1, 1, 1, 1, 0, 1, 2, 3] (Tryd.f13.body.getD .skip)).wp Tryd.prog (Exit.then (fun a' w' => ∃ N', PJ x L w0 (i + 1) N' a' w') Q) a w := by
  obtain ⟨go, cp, ht, hc⟩ := h.cutA h0
  have hlt : i < L.length := by have := (List.getElem?_eq_some_iff.1 hk).1; have := h.i0; omega
  have hbd := h.bd
  have hrun := pA x y L i h.i0.1 (eq_true hlt) hk hL.1 (hL.2 y (List.mem_of_getElem? hk)) (N.map Nd.vx) (by rw [List.length_map]; omega) h1 h2
  rw [List.length_map] at hrun
  refine Cut.run hm ttok tb13_ok (sq := fun _ => true) (by kernel_rfl) hc h.sz hrun ⟨fun s a' w' hq hr => ?_, fun i s a' w' hq hr => hq.elim, fun s a' w' hq hr => hq.elim⟩
  obtain ⟨en, e0, e22, e23, e24, e4, eb⟩ := hq
  obtain ⟨β, cp', Rd, G⟩ := hr
  generalize gId (s.get 4) = b at e4 eb
  have K := G.kp1
  have hkp := ktrans h.kp K ht.lo
  have hor : ∀ g, β b = some g → w.heap.size ≤ g ∨ go = some g := fun g hg => (G.org1 eb hg).imp id fun h => h.2
  refine ⟨N ++ [⟨Lib.index [77, 76, 81, 67, 90] (tx y), none, []⟩], {
    df := G.defers
    sz := G.size.trans en
    t0 := G.v_out e0
    t23 := G.v_out e23
    t24 := G.v_out e24
    kp := hkp
    top := ⟨β b, cp' b, ⟨?_, ?_, ?_, ?_⟩, G.sl_own e22 eb rfl⟩
    i0 := by have := h.i0; omega
    pI := by rw [List.map_append]; exact pI_letter h.pI hk h.i0.1 h1 h2
    bd := by rw [List.map_append, List.map_singleton, nPts_snoc']; simp [Nd.vb]; omega }⟩
  · have := G.own_out e4 eb (by simp)
    rw [List.length_append, List.length_singleton]; exact this
  · have := G.row_out eb (pureX_vx _) rfl
    rw [List.map_append]; exact this
  · exact (ht.nest.next K (fun g hg => hg) hor).snoc0 _
  · intro g hg
    rcases hor g hg with h3 | h3
    · exact Nat.le_trans h.kp.size h3
    · exact ht.lo g h3
theorem hV_some {β : Option Nat} {cp k n : Nat} {f : Bool} {v : Value} (h : hV β cp k (.own 0 n f) v) (hn : 0 < n) : ∃ g c, β = some g ∧ v = .slice (some ⟨g, 0, none⟩) n c ∧ n ≤ c ∧ c ≤ cp ∧ (f = true → c = n) := by
  rcases h with ⟨_, h, _⟩ | h
  · omega
  · exact h
/-- A row of which one cell is a handle of its own: told by its very cells. -/
theorem row_of {X : Cx} {s : St} {a : Act} {w : World} {β : Nat → Option Nat} {cp : Nat → Nat} {Rd : Nat → Prop} (G : VE.Good X s a w β cp Rd) {A B : List Vx} {k : Int} {b nb m : Nat} {q : List Pt} (hb : s.box b = some ⟨A.map vxC ++ ([C.v (.int .i64 k), C.own nb m true] :: B.map vxC), 2, 43, false, false⟩) (hq : s.box nb = some ⟨q.map ptC, 2, 47, true, false⟩) (hm : m = q.length) (h0 : 0 < m) :
    ∃ g0 g c, β b = some g0 ∧ β nb = some g ∧ Row w (some g) (cp nb) ⟨q.map ptC, 2, 47, true, false⟩ ∧ c = m ∧ Row w (β b) (cp b) ⟨(A ++ (⟨k, some (g, m)⟩ :: B)).map vxC, 2, 43, true, false⟩ := by
  obtain ⟨g0, cur, k1, k2, k3, k4, k5, k6, k7⟩ := G.var_out hb (by simp)
  simp only at k2 k3 k4 k6 k7
  have hl : A.length < (A.map vxC ++ ([C.v (.int .i64 k), C.own nb m true] :: B.map vxC)).length := by simp
  have hA : (A.map vxC ++ ([C.v (.int .i64 k), C.own nb m true] :: B.map vxC))[A.length]? = some [C.v (.int .i64 k), C.own nb m true] := by
    rw [List.getElem?_append_right (by simp)]; simp
  obtain ⟨h1, h2⟩ := G.cell_own (k7 A.length 1 _ _ hA rfl) hq (by simpa using hm)
  obtain ⟨g, c, p1, p2, p3, p4, p5⟩ := hV_some h1 h0
  rw [p5 rfl] at p2
  refine ⟨g0, g, m, k1, p1, by rw [← p1]; exact G.row_out hq (pureX_pt q) rfl, rfl, ?_⟩
  rw [k1]
  refine .inr ⟨g0, cur, rfl, k2, k3, by simpa using k4, k5, fun e he => ?_, fun _ e he c hc => ?_, fun i j e c he hc => ?_⟩
  · obtain ⟨x, _, rfl⟩ := List.mem_map.1 he
    rfl
  · obtain ⟨x, _, rfl⟩ := List.mem_map.1 he
    obtain ⟨kk, _ | ⟨g', n'⟩⟩ := x <;> simp [vxC, vxP] at hc <;> rcases hc with rfl | rfl <;> rfl
  · by_cases hi : i = A.length
    · subst hi
      have he2 : e = vxC ⟨k, some (g, m)⟩ := by
        rw [List.map_append, List.getElem?_append_right (by simp)] at he
        simpa using he.symm
      subst he2
      match j with
      | 0 =>
        simp [vxC] at hc; subst hc
        exact MV.of (k7 A.length 0 _ _ hA rfl) trivial
      | 1 =>
        simp [vxC, vxP] at hc; subst hc
        exact .inl ⟨_, rfl, p2, rfl⟩
      | j + 2 => simp [vxC] at hc
    · have he2 : (A.map vxC ++ ([C.v (.int .i64 k), C.own nb m true] :: B.map vxC))[i]? = some e := by
        rw [← he, List.map_append]
        rcases Nat.lt_or_ge i A.length with h5 | h5
        · rw [List.getElem?_append_left (by simpa using h5), List.getElem?_append_left (by simpa using h5)]
        · obtain ⟨z, rfl⟩ : ∃ z, i = A.length + 1 + z := ⟨i - A.length - 1, by omega⟩
          rw [List.getElem?_append_right (by simp; omega), List.getElem?_append_right (by simp; omega)]
          simp only [List.length_map, List.map_cons]
          rw [show A.length + 1 + z - A.length = z + 1 by omega, List.getElem?_cons_succ, List.getElem?_cons_succ]
      refine MV.of (k7 i j e c he2 hc) ?_
      obtain ⟨x, _, rfl⟩ := List.mem_map.1 (List.mem_of_getElem? he)
      exact okX_vx x c (List.mem_of_getElem? hc)
theorem box_rd {w : World} {lo : Nat} {go : Option Nat} {cp : Nat} {A : List Nd} {d : Nd} (hrow : Row w go cp ⟨((A ++ [d]).map Nd.vx).map vxC, 2, 43, true, false⟩) (hi : Inn w lo d) {Mt Rd : Nat → Prop} {H : C → Value → Prop} (hM : ∀ g, d.g = some g → ¬ Mt g) : BoxOK0 w (MC w Mt Rd H) go cp ⟨(A.map Nd.vx).map vxC ++ [[C.v (.int .i64 d.k), C.sl true (d.ps.map ptC)]], 2, 43, false, false⟩ := by
  rcases hrow with ⟨_, h, _⟩ | ⟨g, cur, h1, h2, h4, h5, h6, h7, h9, h8⟩
  · simp at h
  · simp only at h2 h4 h5 h7 h8
    refine .inr ⟨g, cur, h1, h2, h4, by simpa using h5, h6, fun e he => ?_, (fun h => nomatch h), fun i j e c he hc => ?_⟩
    · rcases List.mem_append.1 he with he | he
      · obtain ⟨x, _, rfl⟩ := List.mem_map.1 he
        rfl
      · rw [List.mem_singleton] at he; subst he; rfl
    · simp only at he
      rw [List.getElem?_append] at he
      split at he
      · rename_i hlt
        have : ((A ++ [d]).map Nd.vx |>.map vxC)[i]? = some e := by
          rw [List.map_append, List.map_append, List.getElem?_append_left hlt]; exact he
        exact (h8 i j e c this hc).mc
      · rename_i hge
        have hil := (List.getElem?_eq_some_iff.1 he).1
        simp only [List.length_singleton, List.length_map] at hil hge
        obtain rfl : i = A.length := by omega
        have hlast : ((A ++ [d]).map Nd.vx |>.map vxC)[A.length]? = some (vxC d.vx) := by
          rw [List.map_append, List.map_append, List.getElem?_append_right (by simp)]; simp
        simp at he
        subst he
        match j with
        | 0 => simp at hc; subst hc; exact (h8 A.length 0 _ _ hlast rfl).mc
        | 1 =>
          simp at hc; subst hc
          exact (hi.rc (h8 A.length 1 _ _ hlast rfl) hM).mc
        | j + 2 => simp at hc
/-- A pair of coordinates. -/
theorem PJ.point {x : ByteArray} {L : List ByteArray} {w0 : World} {i : Int} {A : List Nd} {d : Nd} {a : Act} {w : World} (h : PJ x L w0 i (A ++ [d]) a w) (h0 : FrzOK rt0 w0) (hL : L.length ≤ 801 ∧ ∀ y ∈ L, y.size ≤ 800) {y : ByteArray} (hk : L[i.toNat]? = some y) (hn : ¬ ((y.size : Int) = 1 ∧ 0 ≤ Lib.index [77, 76, 81, 67, 90] (tx y))) {p q : Int} (hc : (Lib.cut (tx y) [44]).2.2 = true) (ha : Lib.atoiAll (Lib.cut (tx y) [44]).1 = .ok p) (hb : Lib.atoiAll (Lib.cut (tx y) [44]).2.1 = .ok q) {Q : Exit → Act → World → Prop} :
    (nav [1, 1, 1, 1, 0, 1, 2, 3] (Tryd.f13.body.getD .skip)).wp Tryd.prog (Exit.then (fun a' w' => ∃ N', PJ x L w0 (i + 1) N' a' w') Q) a w := by
  obtain ⟨go, cp, ht, hr⟩ := h.top
  have hi := ht.nest.inn d (by simp)
  have hF : ∀ g ∈ rt0.F, go ≠ some g := fun g hg e => by have := ht.lo g e; have := h0.2 g hg; omega
  have hlt : i < L.length := by have := (List.getElem?_eq_some_iff.1 hk).1; have := h.i0; omega
  have hbd := h.bd
  simp only [List.length_append, List.length_singleton, List.map_append, List.map_singleton, nPts_snoc', Nd.vb] at hbd
  have hl : ((A.map Nd.vx).map vxC ++ [[C.v (.int .i64 d.k), C.sl true (d.ps.map ptC)]]).length = (A ++ [d]).length := by simp
  have cut : Cut rt0 [(0, .c (.v (.string x))), (4, .c (.own 0 ((A.map Nd.vx).map vxC ++ [[C.v (.int .i64 d.k), C.sl true (d.ps.map ptC)]]).length false)), (22, .c (.sl false (L.map sC))), (23, I L.length), (24, I i)] [⟨(A.map Nd.vx).map vxC ++ [[C.v (.int .i64 d.k), C.sl true (d.ps.map ptC)]], 2, 43, false, false⟩] a w (fun _ => go) (fun _ => cp) := by
    refine cut1 h.df (h0.keep h.kp fun g _ h => h) hF ?_ rfl (box_rd ht.row hi fun g hg hm => ht.nest.out d (by simp) g hg (insH_one hm))
    refine .cons (ma_v h.t0 rfl) (.cons ?_ (.cons (ma_sl hr) (.cons (ma_v h.t23 rfl) (.cons (ma_v h.t24 rfl) .nil))))
    exact ma_own (bx := ⟨(A.map Nd.vx).map vxC ++ [[C.v (.int .i64 d.k), C.sl true (d.ps.map ptC)]], 2, 43, false, false⟩) rfl rfl (by rw [hl]; exact ht.h)
  have hrun := pB x y L i h.i0.1 (eq_true hlt) hk hL.1 (hL.2 y (List.mem_of_getElem? hk)) hn p q hc ha hb ((A.map Nd.vx).map vxC ++ [[C.v (.int .i64 d.k), C.sl true (d.ps.map ptC)]]) d.k d.ps (by rw [hl, List.length_append, List.length_singleton]; omega) (by omega) (last_get _ _)
  refine Cut.run hm ttok tb13_ok (sq := fun _ => true) (by kernel_rfl) cut h.sz hrun ⟨fun s a' w' hq hr => ?_, fun i s a' w' hq hr => hq.elim, fun s a' w' hq hr => hq.elim⟩
  obtain ⟨en, e0, e22, e23, e24, e4, nb, eb, eq⟩ := hq
  obtain ⟨β, cp', Rd, G⟩ := hr
  rw [last_set] at eb
  have K := G.kp1
  have hkp := ktrans h.kp K ht.lo
  have hnb : nb ≠ 0 := by
    rintro rfl
    rw [eb] at eq
    simp at eq
  obtain ⟨g0, g, c, k1, k2, k3, k4, k5⟩ := row_of G (A := A.map Nd.vx) (B := []) eb eq (by simp) (by omega)
  have hgw : w.heap.size ≤ g := (G.org1 eq k2).resolve_right fun h => hnb h.1
  have hor : ∀ g, β 0 = some g → w.heap.size ≤ g ∨ go = some g := fun g hg => (G.org1 eb hg).imp id fun h => h.2
  have hlo : w0.heap.size ≤ g := Nat.le_trans h.kp.size hgw
  refine ⟨A ++ [⟨d.k, some g, d.ps ++ [⟨p, q⟩]⟩], {
    df := G.defers
    sz := G.size.trans en
    t0 := G.v_out e0
    t23 := G.v_out e23
    t24 := G.v_out e24
    kp := hkp
    top := ⟨β 0, cp' 0, ⟨?_, ?_, ?_, ?_⟩, G.sl_own e22 eb rfl⟩
    i0 := by have := h.i0; omega
    pI := ?_
    bd := by rw [List.map_append, List.map_singleton, nPts_snoc']; simp [Nd.vb]; omega }⟩
  · have := G.own_out e4 eb (by simp)
    simpa using this
  · have e : ((A ++ [(⟨d.k, some g, d.ps ++ [⟨p, q⟩]⟩ : Nd)]).map Nd.vx) = A.map Nd.vx ++ [⟨d.k, some (g, d.ps.length + 1)⟩] := by simp [Nd.vx]
    rw [e]; exact k5
  · refine Nest.snoc1 (ht.nest.left.next K (fun g hg => hg) hor) (.inr ⟨g, cp' nb, rfl, hlo, k3⟩) (fun g' hg' he => ?_) (fun e he g' hg' hh => ?_)
    · cases hg'
      exact hnb (G.inj nb 0 _ _ g eq eb k2 he)
    · cases hh
      have := ((ht.nest.inn e (List.mem_append_left _ he)).lt hg').1
      omega
  · intro g' hg
    rcases hor g' hg with h3 | h3
    · exact Nat.le_trans h.kp.size h3
    · exact ht.lo g' h3
  · have hpI := h.pI
    rw [List.map_append] at hpI
    rw [List.map_append]
    exact pI_point hpI hk h.i0.1 hn hc ha hb rfl
end Go.Proofs.YthphndhiacikaaaDoor
end
section
set_option maxRecDepth 100000
set_option linter.unusedSimpArgs false
set_option linter.unusedVariables false
namespace Go.Proofs.YthphndhiacikaaaDoor
open Go Go.VE
/-- What the reading's loop leaves. -/
structure PE (x : ByteArray) (w0 : World) (N : List Nd) (a : Act) (w : World) : Prop where
  df : a.defers = []
  sz : a.tmps.size = 103
  t0 : a.tmps.getD 0 undef = .string x
  kp : Keeps noB w0 w
  top : ∃ go cp, Top w w0.heap.size (a.tmps.getD 4 undef) false go cp N
theorem PJ.exit {x : ByteArray} {L : List ByteArray} {w0 : World} {i : Int} {N : List Nd} {a : Act} {w : World} (h : PJ x L w0 i N a w) (h0 : FrzOK rt0 w0) (hi : ¬ i < L.length) {Q : Exit → Act → World → Prop} {R : Act → World → Prop} (hQ : ∀ a' w', PE x w0 N a' w' → Q (.exit 0) a' w') :
    (nav [1, 1, 1, 1, 0, 1, 2, 3] (Tryd.f13.body.getD .skip)).wp Tryd.prog (Exit.then R Q) a w := by
  obtain ⟨go, cp, ht, hc⟩ := h.cutA h0
  have hrun := pX x L i (eq_false hi) (N.map Nd.vx)
  rw [List.length_map] at hrun
  refine Cut.run hm ttok tb13_ok (sq := fun _ => true) (by kernel_rfl) hc h.sz hrun ⟨fun s a' w' hq hr => hq.elim, fun i s a' w' hq hr => ?_, fun s a' w' hq hr => ?_⟩
  · obtain ⟨e, en, e0, e4, eb⟩ := hq
    cases e
    obtain ⟨β, cp', Rd, G⟩ := hr
    have K := G.kp1
    have hkp := ktrans h.kp K ht.lo
    have hor : ∀ g, β 0 = some g → w.heap.size ≤ g ∨ go = some g := fun g hg => (G.org1 eb hg).imp id fun h => h.2
    refine hQ _ _ ⟨G.defers, G.size.trans en, G.v_out e0, hkp, β 0, cp' 0, ?_, ?_, ht.nest.next K (fun g hg => hg) hor, ?_⟩
    · exact G.own_out e4 eb (by simp)
    · exact G.row_out eb (pureX_vx _) rfl
    · intro g hg
      rcases hor g hg with h3 | h3
      · exact Nat.le_trans h.kp.size h3
      · exact ht.lo g h3
  · obtain ⟨e, _⟩ := hq
    cases e
/-- The loop. -/
theorem PJ.loop {x : ByteArray} {L : List ByteArray} {w0 : World} {a : Act} {w : World} (h : PJ x L w0 0 [] a w) (h0 : FrzOK rt0 w0) (hL : L.map tx = spl 32 (tx x)) (h1 : ¬ x = ⟨#[]⟩) (h2 : ¬ (800 : Int) < x.size) {p : List Verb} (hp : pp (tx x) = some p) {Q : Exit → Act → World → Prop} (hQ : ∀ N a' w', N.map Nd.vb = p → vPath p = true → fmtB p = x → PE x w0 N a' w' → Q (.exit 0) a' w') :
    (Code.loop (nav [1, 1, 1, 1, 0, 1, 2, 3] (Tryd.f13.body.getD .skip))).wp Tryd.prog Q a w := by
  have hF := spl_few hL h2
  have hno : ¬ parseI (L.map tx) = none := fun e => by rw [pp_stop hL h1 e] at hp; cases hp
  refine wp_loopJ (fun n a w => ∃ i N, n = ((L.length : Int) - i).toNat ∧ PJ x L w0 i N a w) _ ⟨0, [], rfl, h⟩ fun n a w hJ => ?_
  obtain ⟨i, N, rfl, hj⟩ := hJ
  by_cases hi : i < L.length
  · obtain ⟨y, hk⟩ : ∃ y, L[i.toNat]? = some y := ⟨_, List.getElem?_eq_getElem (by have := hj.i0; omega)⟩
    have hstep : ∀ a' w', (∃ N', PJ x L w0 (i + 1) N' a' w') → ∃ m, m < ((L.length : Int) - i).toNat ∧ ∃ i' N', m = ((L.length : Int) - i').toNat ∧ PJ x L w0 i' N' a' w' := fun a' w' ⟨N', h⟩ => ⟨((L.length : Int) - (i + 1)).toNat, by omega, i + 1, N', rfl, h⟩
    by_cases hl : (y.size : Int) = 1 ∧ 0 ≤ Lib.index [77, 76, 81, 67, 90] (tx y)
    · refine wp_mono (hj.letter h0 hF hk hl.1 hl.2 (Q := Q)) fun e a' w' hq => ?_
      cases e with
      | normal => exact hstep a' w' hq
      | _ => exact hq
    · have hno2 := fun hc => hno (pI_no hj.pI hk hj.i0.1 hl hc)
      have hc : (Lib.cut (tx y) [44]).2.2 = true := by
        cases hcc : (Lib.cut (tx y) [44]).2.2 with
        | true => rfl
        | false => exact (hno2 (.inl hcc)).elim
      obtain ⟨u, hu⟩ : ∃ u, Lib.atoiAll (Lib.cut (tx y) [44]).1 = .ok u := Classical.byContradiction fun hh => hno2 (.inr (.inl fun n hn => hh ⟨n, hn⟩))
      obtain ⟨v, hv⟩ : ∃ u, Lib.atoiAll (Lib.cut (tx y) [44]).2.1 = .ok u := Classical.byContradiction fun hh => hno2 (.inr (.inr (.inl fun n hn => hh ⟨n, hn⟩)))
      have hne : N ≠ [] := fun e => hno2 (.inr (.inr (.inr (by rw [e]; rfl))))
      obtain ⟨A, d, rfl⟩ : ∃ A d, N = A ++ [d] := ⟨N.dropLast, N.getLast hne, (List.dropLast_concat_getLast hne).symm⟩
      refine wp_mono (hj.point h0 hF hk hl hc hu hv (Q := Q)) fun e a' w' hq => ?_
      cases e with
      | normal => exact hstep a' w' hq
      | _ => exact hq
  · have hd := pp_done hL h2 h1 hj.pI (by omega)
    rw [hp] at hd
    split at hd
    · rename_i hh
      cases hd
      exact hj.exit h0 hi fun a' w' he => hQ N a' w' rfl hh.1 (by rw [fmtB_ok hh.1]; exact hh.2) he
    · cases hd
theorem famPre_of {α : Type} {dec : List AV → Option α} {A : α → List AV} {pre : α → Prop} {args : List AV} {x : α} (h : dec args = some x) (ha : args = A x) (hp : pre x) : famPre dec A pre args := by
  unfold famPre; rw [h]; exact ⟨ha, hp⟩
theorem famPost_of {α : Type} {dec : List AV → Option α} {post : α → AV → List Box → Prop} {args : List AV} {x : α} {r : AV} {bs : List Box} (h : dec args = some x) (hp : famPost dec post args r bs) : post x r bs := by
  unfold famPost at hp; rw [h] at hp; exact hp
theorem d_lvb_of (f : Bool) (p : List Verb) : d_lvb [.c (.sl f (p.map vbC))] = some p := by
  unfold d_lvb
  simp only [vbC_ds]
/-- The end of the text: both checks hold. -/
theorem PE.tail {x : ByteArray} {w0 : World} {N : List Nd} {a : Act} {w : World} (h : PE x w0 N a w) (h0 : FrzOK rt0 w0) {p : List Verb} (hN : N.map Nd.vb = p) (hne : p ≠ []) (hv : vPath p = true) (hf : fmtB p = x) {R : Ending → World → Prop}
    (hR : ∀ v w', Keeps noB w0 w' → (∃ go cp, Top w' w0.heap.size v true go cp N) → R (.returned (.tuple #[v, .bool true])) w') :
    (Code.seq (nav [1, 1, 1, 1, 1, 0] (Tryd.f13.body.getD .skip)) (nav [1, 1, 1, 1, 1, 1] (Tryd.f13.body.getD .skip))).wp Tryd.prog (bodyPost Tryd.prog Tryd.f13 R) a w := by
  obtain ⟨go, cp, ht⟩ := h.top
  have hw := h0.keep h.kp fun g _ h => h
  have hlen : N.length = p.length := by rw [← hN]; simp
  have hpos : 0 < N.length := by rw [hlen]; exact List.length_pos_iff.2 hne
  obtain ⟨g, c, q1, q2, q3, q4, _⟩ := hV_some ht.h hpos
  have hnum := vPath_num hv
  have hrc : RC w noB (.slice (some ⟨g, 0, none⟩) N.length c) (.sl false (p.map vbC)) := by
    have := ht.rc (Mt := noB) fun g _ h => h
    rw [q2, hN] at this
    exact this
  have hex : ∀ (j : Nat) (x0 x1 : AV), [AV.c (.sl false (p.map vbC))][j]? = some x0 → [AV.c (.v (.slice (some ⟨g, 0, none⟩) N.length c))][j]? = some x1 → ∀ w2 : World, (∀ g, g < w.heap.size → w2.heap[g]? = w.heap[g]?) → ∀ (M Rd : Nat → Prop) (H : C → Value → Prop) (v : Value), MA w2 M Rd H v x1 → MA w2 noB noB noH v x0 := by
    intro j x0 x1 hx0 hx1 w2 hk M Rd H v hm
    match j with
    | 0 =>
      cases hx0; cases hx1
      have h2 : RC w2 M v (.v _) := hm
      cases h2
      exact ma_sl (frz_rc hk hrc)
    | j + 1 => simp at hx0
  have tbT_ok : TabOK Tryd.prog (frz rt0 w) (tbT (.slice (some ⟨g, 0, none⟩) N.length c) x) := by
    refine tabOf_cons (by kernel_rfl) (sat_exact (args0 := [.c (.sl false (p.map vbC))]) (sat_out sat_impl_ValidPath_0) (Nat.zero_le _) hw rfl ⟨rfl, famPre_of (d_lvb_of _ _) rfl ?_⟩ hex fun r bs hp => ?_) (tabOf_cons (by kernel_rfl) (sat_exact (args0 := [.c (.sl false (p.map vbC))]) (sat_out sat_impl_FormatPath_0) (Nat.zero_le _) hw rfl ⟨rfl, famPre_of (d_lvb_of _ _) rfl ?_⟩ hex fun r bs hp => ?_) tabOf_nil)
    · show _ ∧ _
      omega
    · exact (famPost_of (d_lvb_of _ _) hp).1.trans (by rw [hv])
    · show _ ∧ _
      omega
    · exact (famPost_of (d_lvb_of _ _) hp).1.trans (by rw [hf])
  have cutT : Cut (frz rt0 w) [(0, .c (.v (.string x))), (4, .c (.v (.slice (some ⟨g, 0, none⟩) N.length c)))] [] a w (fun _ => none) (fun _ => 0) :=
    cut0 h.df ⟨fun g _ => rfl, fun g hg => List.mem_range.1 hg⟩ (.cons (ma_v h.t0 rfl) (.cons (ma_v q2 rfl) .nil))
  refine wp_seq (Cut.run hm ttok tbT_ok (sq := fun _ => true) (by kernel_rfl) cutT h.sz (pT x g N.length c) ⟨fun s a1 w1 hq hr => ?_, fun i s a' w' hq hr => hq.elim, fun s a' w' hq hr => hq.elim⟩)
  obtain ⟨en, e4⟩ := hq
  obtain ⟨β, cp', Rd, G⟩ := hr
  have K : Keeps noB w w1 := G.cut_end.1.mono fun g _ hg => insH_nil hg
  have e4' := G.v_out e4
  have ht1 : Top w1 w0.heap.size (a1.tmps.getD 4 undef) false go cp N := by
    rw [e4', ← q2]
    exact ht.keep K fun g _ _ h => h
  have hF : ∀ g ∈ rt0.F, go ≠ some g := fun g hg e => by have := ht.lo g e; have := h0.2 g hg; omega
  have cutR : Cut rt0 [(4, .c (.own 0 (N.map Nd.vx).length false))] [⟨(N.map Nd.vx).map vxC, 2, 43, true, false⟩] a1 w1 (fun _ => go) (fun _ => cp) :=
    cut1 G.defers (hw.keep K fun g _ h => h) hF (.cons (ma_own (bx := ⟨(N.map Nd.vx).map vxC, 2, 43, true, false⟩) rfl (by simp) (by rw [List.length_map]; exact ht1.h)) .nil) rfl (ht1.row.mono fun v c hc => hc.mc)
  refine Cut.run hm ttok tbC_ok (sq := fun _ => true) (by kernel_rfl) cutR (G.size.trans en) (pR (N.map Nd.vx) (by rw [List.length_map]; omega)) ⟨fun s a' w' hq hr => hq.elim, fun i s a' w' hq hr => ?_, fun s a2 w2 hq hr => ?_⟩
  · obtain ⟨e, _⟩ := hq
    cases e
  obtain ⟨_, e3, e2, eb⟩ := hq
  obtain ⟨β2, cp2, Rd2, G2⟩ := hr
  have K2 := G2.kp1
  have hkp := ktrans (h.kp.trans K (fun g _ h => h) (fun g _ h => h)) K2 ht.lo
  have hor : ∀ g, β2 0 = some g → w1.heap.size ≤ g ∨ go = some g := fun g hg => (G2.org1 eb hg).imp id fun h => h.2
  have hres : Tryd.f13.results = #[.tmp 2, .tmp 3] := by kernel_rfl
  have e3' := G2.v_out e3
  refine ⟨G2.defers, .tuple #[a2.tmps.getD 2 undef, .bool true], ?_, hR _ _ hkp ⟨β2 0, cp2 0, ?_, ?_, ht1.nest.next K2 (fun g hg => hg) hor, ?_⟩⟩
  · rw [← e3']; simp [results, hres]
  · have := G2.own_out e2 eb (by simp)
    simpa using this
  · exact G2.row_out eb (pureX_vx _) rfl
  · intro g hg
    rcases hor g hg with h3 | h3
    · have := h.kp.size; have := K.size; omega
    · exact ht.lo g h3
end Go.Proofs.YthphndhiacikaaaDoor
end
section
set_option maxRecDepth 100000
set_option linter.unusedSimpArgs false
set_option linter.unusedVariables false
namespace Go.Proofs.YthphndhiacikaaaDoor
open Go Go.VE
structure P0 (x : ByteArray) (w0 : World) (a : Act) (w : World) : Prop where
  df : a.defers = []
  sz : a.tmps.size = 103
  t0 : a.tmps.getD 0 undef = .string x
  kp : Keeps noB w0 w
theorem P0.cut {x : ByteArray} {w0 : World} {a : Act} {w : World} (h : P0 x w0 a w) (h0 : FrzOK rt0 w0) : Cut rt0 [(0, .c (.v (.string x)))] [] a w (fun _ => none) (fun _ => 0) :=
  cut0 h.df (h0.keep h.kp fun g _ h => h) (.cons (ma_v h.t0 rfl) .nil)
theorem P0.seg {x : ByteArray} {w0 : World} {a : Act} {w : World} (h : P0 x w0 a w) (h0 : FrzOK rt0 w0) {c : Code} (hsq : allDB (dwOK tb13 fun _ => true) c = true) (hrun : runW (ttOf tys) tb13 Ent (dwS (ttOf tys) tb13 fun _ => true) c ⟨103, 0, [(0, .c (.v (.string x)))], [], 0, 0⟩ (seqK (fun _ _ => False) fun s' => s'.nt = 103 ∧ s'.get 0 = .c (.v (.string x)))) {Q : Exit → Act → World → Prop} {R : Act → World → Prop} (hR : ∀ a' w', P0 x w0 a' w' → R a' w') : c.wp Tryd.prog (Exit.then R Q) a w := by
  refine Cut.run hm ttok tb13_ok hsq (h.cut h0) h.sz hrun ⟨fun s a' w' hq hr => ?_, fun i s a' w' hq hr => hq.elim, fun s a' w' hq hr => hq.elim⟩
  obtain ⟨en, e0⟩ := hq
  obtain ⟨β, cp', Rd, G⟩ := hr
  have K : Keeps noB w w' := G.cut_end.1.mono fun g _ hg => insH_nil hg
  exact hR _ _ ⟨G.defers, G.size.trans en, G.v_out e0, h.kp.trans K (fun g _ h => h) (fun g _ h => h)⟩
theorem nest_nil {w : World} {lo : Nat} {go : Option Nat} : Nest w lo go [] := ⟨fun d hd => by simp at hd, fun d hd => by simp at hd, fun i j di dj g h => by simp at h⟩
/-- impl.ParsePath at a text that is a path's: the path that it hands back, block by block. -/
theorem parse_x {x : ByteArray} {p : List Verb} (hp : pp (tx x) = some p) (hne : p ≠ []) {w0 : World} (h0 : FrzOK rt0 w0) :
    Calls Tryd.prog 13 #[.string x] w0 fun e w' => ∃ v go cp N, e = .returned (.tuple #[v, .bool true]) ∧ Keeps noB w0 w' ∧ Top w' w0.heap.size v true go cp N ∧ N.map Nd.vb = p := by
  have h1 : ¬ x = ⟨#[]⟩ := fun e => by rw [pp_mt e] at hp; cases hp; exact hne rfl
  have h2 : ¬ (800 : Int) < x.size := fun e => by rw [pp_long e] at hp; cases hp
  have hc : Tryd.f13.body = some (Code.seq (nav [0] (Tryd.f13.body.getD .skip)) (Code.seq (nav [1, 0] (Tryd.f13.body.getD .skip)) (Code.seq (nav [1, 1, 0] (Tryd.f13.body.getD .skip)) (Code.seq (nav [1, 1, 1, 0] (Tryd.f13.body.getD .skip)) (Code.seq (Code.seq (nav [1, 1, 1, 1, 0, 0] (Tryd.f13.body.getD .skip)) (Code.block 0 (Code.loop (nav [1, 1, 1, 1, 0, 1, 2, 3] (Tryd.f13.body.getD .skip))))) (Code.seq (nav [1, 1, 1, 1, 1, 0] (Tryd.f13.body.getD .skip)) (nav [1, 1, 1, 1, 1, 1] (Tryd.f13.body.getD .skip)))))))) := by kernel_rfl
  refine calls_of_wp Tryd.func13 hc ?_
  have hnt : Tryd.f13.ntmps = 103 := Tryd.ntmps13
  have hP : P0 x w0 { tmps := #[.string x] ++ Array.replicate (Tryd.f13.ntmps - (#[Value.string x] : Array Value).size) undef, defers := [] } w0 := by
    refine ⟨rfl, ?_, ?_, Keeps.refl _ _⟩
    · rw [hnt]; simp
    · rw [hnt]; simp
  generalize ({ tmps := #[.string x] ++ Array.replicate (Tryd.f13.ntmps - (#[Value.string x] : Array Value).size) undef, defers := [] } : Act) = a0 at hP
  refine wp_seq (hP.seg h0 (by kernel_rfl) (pH0 x) fun a w hP => ?_)
  refine wp_seq (hP.seg h0 (by kernel_rfl) (pH1 x h1) fun a w hP => ?_)
  refine wp_seq (hP.seg h0 (by kernel_rfl) (pH2 x h2) fun a w hP => ?_)
  refine wp_seq (Cut.run hm ttok tb13_ok (sq := fun _ => true) (by kernel_rfl) (hP.cut h0) hP.sz (pH3 x) ⟨fun s a1 w1 hq hr => ?_, fun i s a' w' hq hr => hq.elim, fun s a' w' hq hr => hq.elim⟩)
  obtain ⟨en, e0, e4, eb⟩ := hq
  obtain ⟨β, cp', Rd, G⟩ := hr
  generalize gId (s.get 4) = b at e4 eb
  have K : Keeps noB w w1 := G.cut_end.1.mono fun g _ hg => insH_nil hg
  have kp1 : Keeps noB w0 w1 := hP.kp.trans K (fun g _ h => h) (fun g _ h => h)
  have ht : Top w1 w0.heap.size (a1.tmps.getD 4 undef) false (β b) (cp' b) [] := by
    refine ⟨G.own_out e4 eb (by simp), G.row_out eb (pureX_vx []) rfl, nest_nil, fun g hg => ?_⟩
    rcases org_new G eb hg with h | ⟨h, _⟩
    · exact Nat.le_trans hP.kp.size h
    · simp at h
  have t0 := G.v_out e0
  have sz1 : a1.tmps.size = 103 := G.size.trans en
  have df1 := G.defers
  have hF : ∀ g ∈ rt0.F, β b ≠ some g := fun g hg e => by have := ht.lo g e; have := h0.2 g hg; omega
  clear K e4 e0 en
  have cutW : Cut rt0 [(0, .c (.v (.string x))), (4, .c (.own 0 0 false))] [⟨[], 2, 43, true, false⟩] a1 w1 (fun _ => β b) (fun _ => cp' b) :=
    cut1 df1 (h0.keep kp1 fun g _ h => h) hF (.cons (ma_v t0 rfl) (.cons (ma_own (bx := ⟨[], 2, 43, true, false⟩) rfl rfl ht.h) .nil)) rfl (ht.row.mono fun v c hc => hc.mc)
  refine wp_seq (wp_seq (Cut.run hm ttok tb13_ok (sq := fun _ => true) (by kernel_rfl) cutW sz1 (pW x h2) ⟨fun s2 a2 w2 hq hr => ?_, fun i s a' w' hq hr => hq.elim, fun s a' w' hq hr => hq.elim⟩))
  obtain ⟨en, e0, e4, eb2, L, e22, e23, e24, hL⟩ := hq
  obtain ⟨β2, cp2, Rd2, G2⟩ := hr
  have K2 := G2.kp1
  have hkp := ktrans kp1 K2 ht.lo
  have hor : ∀ g, β2 0 = some g → w1.heap.size ≤ g ∨ β b = some g := fun g hg => (G2.org1 eb2 hg).imp id fun h => h.2
  have hJ : PJ x L w0 0 [] a2 w2 := {
    df := G2.defers
    sz := G2.size.trans en
    t0 := G2.v_out e0
    t23 := G2.v_out e23
    t24 := G2.v_out e24
    kp := hkp
    top := ⟨β2 0, cp2 0, ⟨G2.own_out e4 eb2 (by simp), G2.row_out eb2 (pureX_vx []) rfl, nest_nil, fun g hg => by
      rcases hor g hg with h3 | h3
      · exact Nat.le_trans kp1.size h3
      · exact ht.lo g h3⟩, G2.sl_own e22 eb2 rfl⟩
    i0 := by omega
    pI := rfl
    bd := by simp [nPts] }
  refine wp_block (hJ.loop h0 hL h1 h2 hp fun N a3 w3 hN hv hf hE => ?_)
  simp only [Exit.inBlock, if_true]
  exact hE.tail h0 hN hne hv hf fun v w' hk ⟨go, cp, h⟩ => ⟨v, go, cp, N, rfl, hk, h, hN⟩
end Go.Proofs.YthphndhiacikaaaDoor
end
