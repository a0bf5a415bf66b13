/- Contracts of functions of the program vectorraster, each proved for all states that fit its description. No conditions. -/
import Derived.Test.YtjjmjidchehffaaPJ
import Derived.Test.YtjjmjidchehffaaPF
import Derived.Test.YtjjmjidchehffaaPE
import Derived.Test.YtjjmjidchehffaaPA
import Derived.Test.YtjjmjidchehffaaPC
import Derived.Test.YtjjmjidchehffaaPH
set_option linter.unusedSimpArgs false
set_option linter.unusedVariables false
section
set_option maxRecDepth 100000
set_option linter.unusedSimpArgs false
set_option linter.unusedVariables false
namespace Go.Proofs.Ytjjmjidchehffaa
open Go Go.VE
def d_cr_cr : List AV → Option (Cross × Cross)
  | [.agg a0, .agg a1] => match crCd a0, crCd a1 with
    | some a0v, some a1v => some (a0v, a1v)
    | _, _ => none
  | _ => none
def d_lcr_cr : List AV → Option ((List Cross) × Cross)
  | [.c (.sl _ a0), .agg a1] => match decAll crCd a0, crCd a1 with
    | some a0v, some a1v => some (a0v, a1v)
    | _, _ => none
  | _ => none
def d_pt_pt_i : List AV → Option (Pt × Pt × Int)
  | [.agg a0, .agg a1, .c (.v (.int .i64 a2))] => match ptCd a0, ptCd a1 with
    | some a0v, some a1v => some (a0v, a1v, a2)
    | _, _ => none
  | _ => none
def d_lsp_i : List AV → Option ((List Span) × Int)
  | [.c (.sl _ a0), .c (.v (.int .i64 a1))] => match decAll spCd a0 with
    | some a0v => some (a0v, a1)
    | _ => none
  | _ => none
def d_llpt_i : List AV → Option ((List (List Pt)) × Int)
  | [.c (.sl _ a0), .c (.v (.int .i64 a1))] => match decAll lptCd a0 with
    | some a0v => some (a0v, a1)
    | _ => none
  | _ => none
def d_lcr_i : List AV → Option ((List Cross) × Int)
  | [.c (.sl _ a0), .c (.v (.int .i64 a1))] => match decAll crCd a0 with
    | some a0v => some (a0v, a1)
    | _ => none
  | _ => none
attribute [go_sem] d_cr_cr d_lcr_cr d_pt_pt_i d_lsp_i d_llpt_i d_lcr_i
end Go.Proofs.Ytjjmjidchehffaa
end
section
set_option maxRecDepth 100000
set_option linter.unusedSimpArgs false
set_option linter.unusedVariables false
namespace Go.Proofs.Ytjjmjidchehffaa
open Go Go.VE
def bf (a b : Cross) : Bool := decide (a.a < b.a ∨ a.a = b.a ∧ a.s < b.s)
def okS (p : Span) : Bool := decide (0 ≤ p.f ∧ p.f ≤ p.t ∧ p.t ≤ 48)
def ovl (p : Span) (c : Int) : Int := max 0 (min p.t (4 * c + 4) - max p.f (4 * c))
def ovls (l : List Span) (c : Int) : Int := (l.map fun p => ovl p c).sum
def spanN (l : List Span) (c : Int) : Int := if (decide (l.length ≤ 40) && decide (0 ≤ c ∧ c ≤ 11) && l.all okS) = true then ovls l c else -1
theorem cr_set (o : List Cross) (n : Nat) (a b : Int) : (List.map crC o).set n [.v (.int .i64 a), .v (.int .i64 b)] = List.map crC (o.set n ⟨a, b⟩) := by rw [List.map_set]; rfl
theorem set_oth {α : Type} {o : List α} {n m : Nat} {p : α} (h : o[m]? = some p) (hn : n ≠ m) (q : α) : (o.set n q)[m]? = some p := by
  rw [List.getElem?_set_ne hn]; exact h
theorem ovl_bd {p : Span} (h : okS p = true) (c : Int) : 0 ≤ ovl p c ∧ ovl p c ≤ 4 := by
  simp only [okS, decide_eq_true_eq] at h
  unfold ovl; omega
theorem ovls_bd {l : List Span} (c : Int) (h : l.all okS = true) : 0 ≤ ovls l c ∧ ovls l c ≤ 4 * l.length := by
  induction l with
  | nil => simp [ovls]
  | cons p l ih =>
    simp only [List.all_cons, Bool.and_eq_true] at h
    have h1 := ih h.2
    have h2 := ovl_bd h.1 c
    simp only [ovls, List.map_cons, List.sum_cons, List.length_cons] at *
    omega
theorem ovls_snoc (l : List Span) (p : Span) (c : Int) : ovls (l ++ [p]) c = ovls l c + ovl p c := by simp [ovls]
def spBf_A : Cross × Cross → List AV
  | (a, b) => [.agg (crC a), .agg (crC b)]
def spBf_pre : Cross × Cross → Prop
  | (a, b) => True
def spBf_post : Cross × Cross → AV → List Box → Prop
  | (a, b), r, bs => r = B (bf a b) ∧ bs = []
def spBf : VE.Spec := famSpec spBf_A d_cr_cr spBf_pre spBf_post 0 true
theorem spBf_q : spBf.flat = true ∧ spBf.mt = [] ∧ spBf.shut = false ∧ spBf.cost = 0 ∧ (∀ a i, spBf.pre a i = (i = [] ∧ famPre d_cr_cr spBf_A spBf_pre a)) ∧ ∀ a i r b, spBf.post a i r b = (famPost d_cr_cr spBf_post a r b) := ⟨rfl, rfl, rfl, rfl, fun _ _ => rfl, fun _ _ _ _ => rfl⟩
def spPlc_A : (List Cross) × Cross → List AV
  | (l, c) => [.c (.sl false (l.map crC)), .agg (crC c)]
def spPlc_pre : (List Cross) × Cross → Prop
  | (l, c) => l.length ≤ 1000000
def spPlc_post : (List Cross) × Cross → AV → List Box → Prop
  | (l, c), r, bs => ∃ k : Nat, k ≤ l.length ∧ r = .c (.own 0 (l.length + 1) false) ∧ bs = [⟨(l.take k ++ c :: l.drop k).map crC, 2, 109, true, false⟩]
def spPlc : VE.Spec := famSpec spPlc_A d_lcr_cr spPlc_pre spPlc_post 0 true
theorem spPlc_q : spPlc.flat = true ∧ spPlc.mt = [] ∧ spPlc.shut = false ∧ spPlc.cost = 0 ∧ (∀ a i, spPlc.pre a i = (i = [] ∧ famPre d_lcr_cr spPlc_A spPlc_pre a)) ∧ ∀ a i r b, spPlc.post a i r b = (famPost d_lcr_cr spPlc_post a r b) := ⟨rfl, rfl, rfl, rfl, fun _ _ => rfl, fun _ _ _ _ => rfl⟩
def spFst_A : Pt × Pt × Int → List AV
  | (a, b, y) => [.agg (ptC a), .agg (ptC b), I y]
def spFst_pre : Pt × Pt × Int → Prop
  | (a, b, y) => okP a ∧ okP b ∧ -3000 ≤ y ∧ y ≤ 3000
def spFst_post : Pt × Pt × Int → AV → List Box → Prop
  | (a, b, y), r, bs => ∃ n, r = I n ∧ bs = [] ∧ 0 ≤ n ∧ n ≤ 48
def spFst : VE.Spec := famSpec spFst_A d_pt_pt_i spFst_pre spFst_post 0 true
theorem spFst_q : spFst.flat = true ∧ spFst.mt = [] ∧ spFst.shut = false ∧ spFst.cost = 0 ∧ (∀ a i, spFst.pre a i = (i = [] ∧ famPre d_pt_pt_i spFst_A spFst_pre a)) ∧ ∀ a i r b, spFst.post a i r b = (famPost d_pt_pt_i spFst_post a r b) := ⟨rfl, rfl, rfl, rfl, fun _ _ => rfl, fun _ _ _ _ => rfl⟩
def spSpanC_A : (List Span) × Int → List AV
  | (l, c) => [.c (.sl false (l.map spC)), I c]
def spSpanC_pre : (List Span) × Int → Prop
  | (l, c) => l.length ≤ 1000000000
def spSpanC_post : (List Span) × Int → AV → List Box → Prop
  | (l, c), r, bs => r = I (spanN l c) ∧ bs = []
def spSpanC : VE.Spec := famSpec spSpanC_A d_lsp_i spSpanC_pre spSpanC_post 0 true
theorem spSpanC_q : spSpanC.flat = true ∧ spSpanC.mt = [] ∧ spSpanC.shut = false ∧ spSpanC.cost = 0 ∧ (∀ a i, spSpanC.pre a i = (i = [] ∧ famPre d_lsp_i spSpanC_A spSpanC_pre a)) ∧ ∀ a i r b, spSpanC.post a i r b = (famPost d_lsp_i spSpanC_post a r b) := ⟨rfl, rfl, rfl, rfl, fun _ _ => rfl, fun _ _ _ _ => rfl⟩
end Go.Proofs.Ytjjmjidchehffaa
end
section
set_option maxRecDepth 100000
set_option linter.unusedSimpArgs false
set_option linter.unusedVariables false
namespace Go.Proofs.Ytjjmjidchehffaa
open Go Go.VE
def tb129 : Nat → Option VE.Spec := tabOf []
theorem tb129_ok : TabOK Try.prog rt0 tb129 := tabOf_nil
set_option maxHeartbeats 4000000 in
theorem sat_spec_before_0 : Sat Try.prog rt0 129 (wkOut spBf) := by
  refine fn_sat hm ttok (tab := tb129) tb129_ok Try.func129 (c := Try.f129.body.getD .skip) (by kernel_rfl) (ts := [.tmp 4]) (by kernel_rfl) Try.ntmps129 (sq := fun _ => true) (by kernel_rfl) ?_
  intro args ins pk hpre0 hpk
  obtain ⟨rfl, hpre0⟩ := hpre0
  obtain ⟨⟨a, b⟩, rfl, hpre, hdec⟩ := famPre_ex hpre0
  clear hpre0 hdec
  try simp only [spBf_pre] at hpre
  replace hpk : pk + 0 ≤ pickLimit := hpk
  refine ⟨Nat.le_of_ble_eq_true rfl, ?_⟩
  simp (config := { maxSteps := 1000000 }) only [go_sem, ↓ifP_true, ↓ifP_false, ↓ifP_not, Nat.reduceLT, Nat.reduceAdd, Nat.reduceBEq, Nat.reduceSub, Nat.reduceLeDiff, Nat.reduceEqDiff, Nat.reduceMul, Int.reduceToNat, Int.reduceEq, Int.reduceLT, Int.reduceLE, Int.reduceAdd, Int.reduceSub, Int.reduceMul, reduceCtorEq, cond_true, cond_false, forall_eq', forall_eq, forall_const, implies_true, if_true, if_false, exists_eq_left', exists_eq', exists_eq, ne_eq, Try.f129, spBf_q, spBf_A, spBf_pre, spBf_post]
  repeat' (first | apply And.intro | (intro _) | omega | assumption | with_reducible rfl)
  all_goals (first | ((simp only [bf]; grind); done) | ((simp_all [bf]; done); done) | (grind [bf]; done))
theorem sat_spec_before : Sat Try.prog rt0 129 (wkIn spBf) := sat_in (sat_out sat_spec_before_0)
def tb116 : Nat → Option VE.Spec := tabOf [(102, wkIn spStepOf)]
theorem tb116_102 : tb116 102 = some (wkIn spStepOf) := rfl
theorem tb116_ok : TabOK Try.prog rt0 tb116 := (tabOf_cons (by kernel_rfl) sat_spec_stepOf tabOf_nil)
set_option maxHeartbeats 4000000 in
theorem sat_spec_firstSample_0 : Sat Try.prog rt0 116 (wkOut spFst) := by
  refine fn_sat hm ttok (tab := tb116) tb116_ok Try.func116 (c := Try.f116.body.getD .skip) (by kernel_rfl) (ts := [.tmp 6]) (by kernel_rfl) Try.ntmps116 (sq := fun _ => true) (by kernel_rfl) ?_
  intro args ins pk hpre0 hpk
  obtain ⟨rfl, hpre0⟩ := hpre0
  obtain ⟨⟨a, b, y⟩, rfl, hpre, hdec⟩ := famPre_ex hpre0
  clear hpre0 hdec
  try simp only [spFst_pre] at hpre
  replace hpk : pk + 0 ≤ pickLimit := hpk
  refine ⟨Nat.le_of_ble_eq_true rfl, ?_⟩
  simp (config := { maxSteps := 1000000 }) only [go_sem, ↓ifP_true, ↓ifP_false, ↓ifP_not, Nat.reduceLT, Nat.reduceAdd, Nat.reduceBEq, Nat.reduceSub, Nat.reduceLeDiff, Nat.reduceEqDiff, Nat.reduceMul, Int.reduceToNat, Int.reduceEq, Int.reduceLT, Int.reduceLE, Int.reduceAdd, Int.reduceSub, Int.reduceMul, reduceCtorEq, cond_true, cond_false, forall_eq', forall_eq, forall_const, implies_true, if_true, if_false, exists_eq_left', exists_eq', exists_eq, ne_eq, Try.f116, tb116_102, spFst_q, spFst_A, spFst_pre, spFst_post, spStepOf_q, spStepOf_A, spStepOf_pre, spStepOf_post]
  repeat' (first | apply And.intro | (intro _) | omega | assumption | with_reducible rfl)
  refine loopS (α := Int) false [0, 1, 5, 7, 8, 9, 10, 11, 12, 13, 14, 15, 16, 17, 18, 19, 20, 21] (fun σ => []) (fun σ x => [(7, I x)]) (fun σ x => []) (fun n => 0) (fun σ => gI (σ.get 7)) (fun σ τ => []) (fun n => 0 ≤ n ∧ n ≤ 48) (fun n => (48 - n).toNat) ⟨by (simp (config := { maxSteps := 1000000 }) only [go_sem, ↓ifP_true, ↓ifP_false, ↓ifP_not, Nat.reduceLT, Nat.reduceAdd, Nat.reduceBEq, Nat.reduceSub, Nat.reduceLeDiff, Nat.reduceEqDiff, Nat.reduceMul, Int.reduceToNat, Int.reduceEq, Int.reduceLT, Int.reduceLE, Int.reduceAdd, Int.reduceSub, Int.reduceMul, reduceCtorEq, cond_true, cond_false, forall_eq', forall_eq, forall_const, implies_true, if_true, if_false, exists_eq_left', exists_eq', exists_eq, ne_eq, Try.f116, tb116_102, spFst_q, spFst_A, spFst_pre, spFst_post, spStepOf_q, spStepOf_A, spStepOf_pre, spStepOf_post]; (repeat' (first | apply And.intro | (intro _) | omega | assumption | with_reducible rfl))), ?_⟩
  rintro n hinv
  try dsimp only at hinv
  simp (config := { maxSteps := 1000000 }) only [go_sem, ↓ifP_true, ↓ifP_false, ↓ifP_not, Nat.reduceLT, Nat.reduceAdd, Nat.reduceBEq, Nat.reduceSub, Nat.reduceLeDiff, Nat.reduceEqDiff, Nat.reduceMul, Int.reduceToNat, Int.reduceEq, Int.reduceLT, Int.reduceLE, Int.reduceAdd, Int.reduceSub, Int.reduceMul, reduceCtorEq, cond_true, cond_false, forall_eq', forall_eq, forall_const, implies_true, if_true, if_false, exists_eq_left', exists_eq', exists_eq, ne_eq, Try.f116, tb116_102, spFst_q, spFst_A, spFst_pre, spFst_post, spStepOf_q, spStepOf_A, spStepOf_pre, spStepOf_post]
  repeat' (first | apply And.intro | (intro _) | omega | assumption | with_reducible rfl)
  all_goals (first | (omega; done) | (exact hpre.1; done) | (exact hpre.2.1; done))
theorem sat_spec_firstSample : Sat Try.prog rt0 116 (wkIn spFst) := sat_in (sat_out sat_spec_firstSample_0)
end Go.Proofs.Ytjjmjidchehffaa
end
section
set_option maxRecDepth 100000
set_option linter.unusedSimpArgs false
set_option linter.unusedVariables false
namespace Go.Proofs.Ytjjmjidchehffaa
open Go Go.VE
theorem cr_set2 (o : List Cross) (n : Nat) (x : Cross) : (List.map crC o).set n (crC x) = List.map crC (o.set n x) := by rw [List.map_set]
theorem set_same' {α : Type} {o : List α} {n : Nat} {p : α} (h : o[n]? = some p) (q : α) : (o.set n q)[n]? = some q := by
  rw [List.getElem?_set_self (List.getElem?_eq_some_iff.1 h).1]
theorem ins_l (l : List Cross) (c : Cross) (k : Nat) : (l.take k ++ c :: l.drop k).length = l.length + 1 := by
  simp only [List.length_append, List.length_take, List.length_cons, List.length_drop]; omega
theorem ins_c {l o : List Cross} {c x : Cross} {k : Nat} (ho : o = l.take k ++ c :: l.drop k) (hk : k ≤ l.length) (hx : o[k]? = some x) : x = c := by
  rw [ho, List.getElem?_append_right (by simp; omega)] at hx
  simp only [List.length_take, show k - min k l.length = 0 by omega, List.getElem?_cons_zero, Option.some.injEq] at hx
  exact hx.symm
theorem ins_b {l o : List Cross} {c : Cross} {k : Int} (ho : o = l.take k.toNat ++ c :: l.drop k.toNat) (hk : k ≤ l.length) (h0 : 0 < k) : ∃ y, l[(k - 1).toNat]? = some y ∧ o[(k - 1).toNat]? = some y := by
  have hl : (k - 1).toNat < l.length := by omega
  refine ⟨l[(k - 1).toNat], List.getElem?_eq_getElem hl, ?_⟩
  rw [ho, List.getElem?_append_left (by simp; omega), List.getElem?_take_of_lt (by omega)]
  exact List.getElem?_eq_getElem hl
theorem set_mid : ∀ (A D : List Cross) (y c : Cross), ((A ++ y :: c :: D).set (A.length + 1) y).set A.length c = A ++ c :: y :: D
  | [], D, y, c => rfl
  | a :: A, D, y, c => by
    have := set_mid A D y c
    simp only [List.cons_append, List.length_cons, List.set_cons_succ] at *
    rw [this]
theorem ins_sw {l o : List Cross} {c y : Cross} {k : Int} (ho : o = l.take k.toNat ++ c :: l.drop k.toNat) (hk : k ≤ l.length) (h0 : 0 < k) (hy : l[(k - 1).toNat]? = some y) : (o.set k.toNat y).set (k - 1).toNat c = l.take (k - 1).toNat ++ c :: l.drop (k - 1).toNat := by
  have e1 : l.take k.toNat = l.take (k - 1).toNat ++ [y] := by
    have := takeN hy (by omega)
    rwa [show k - 1 + 1 = k by omega] at this
  have e2 : l.drop (k - 1).toNat = y :: l.drop k.toNat := by
    have := dropN hy (by omega)
    rwa [show k - 1 + 1 = k by omega] at this
  rw [ho, e1, e2, List.append_assoc, List.singleton_append]
  have hl : (l.take (k - 1).toNat).length = (k - 1).toNat := by simp; omega
  have := set_mid (l.take (k - 1).toNat) (l.drop k.toNat) y c
  rwa [hl, show (k - 1).toNat + 1 = k.toNat by omega] at this
theorem ins_all {l o : List Cross} {c : Cross} {k : Int} (ho : o = l.take k.toNat ++ c :: l.drop k.toNat) (hk : k ≤ l.length) :
    (0 < k ∧ ∃ y, l[(k - 1).toNat]? = some y ∧ o[(k - 1).toNat]? = some y ∧ (∀ q, (o.set k.toNat q)[(k - 1).toNat]? = some y) ∧ (o.set k.toNat y).set (k - 1).toNat c = l.take (k - 1).toNat ++ c :: l.drop (k - 1).toNat) ∨ k ≤ 0 := by
  rcases Int.lt_or_le 0 k with h0 | h0
  · obtain ⟨y, hy, hy2⟩ := ins_b ho hk h0
    exact .inl ⟨h0, y, hy, hy2, fun q => set_oth hy2 (by omega) q, ins_sw ho hk h0 hy⟩
  · exact .inr h0
def tb115 : Nat → Option VE.Spec := tabOf [(129, wkIn spBf)]
theorem tb115_129 : tb115 129 = some (wkIn spBf) := rfl
theorem tb115_ok : TabOK Try.prog rt0 tb115 := (tabOf_cons (by kernel_rfl) sat_spec_before tabOf_nil)
set_option maxHeartbeats 4000000 in
theorem sat_spec_place_0 : Sat Try.prog rt0 115 (wkOut spPlc) := by
  refine fn_sat hm ttok (tab := tb115) tb115_ok Try.func115 (c := Try.f115.body.getD .skip) (by kernel_rfl) (ts := [.tmp 4]) (by kernel_rfl) Try.ntmps115 (sq := fun id => !(id == 1)) (by kernel_rfl) ?_
  intro args ins pk hpre0 hpk
  obtain ⟨rfl, hpre0⟩ := hpre0
  obtain ⟨⟨l, c⟩, rfl, hpre, hdec⟩ := famPre_ex hpre0
  clear hpre0 hdec
  try simp only [spPlc_pre] at hpre
  replace hpk : pk + 0 ≤ pickLimit := hpk
  refine ⟨Nat.le_of_ble_eq_true rfl, ?_⟩
  simp (config := { maxSteps := 1000000 }) only [go_sem, ↓ifP_true, ↓ifP_false, ↓ifP_not, Nat.reduceLT, Nat.reduceAdd, Nat.reduceBEq, Nat.reduceSub, Nat.reduceLeDiff, Nat.reduceEqDiff, Nat.reduceMul, Int.reduceToNat, Int.reduceEq, Int.reduceLT, Int.reduceLE, Int.reduceAdd, Int.reduceSub, Int.reduceMul, reduceCtorEq, cond_true, cond_false, forall_eq', forall_eq, forall_const, implies_true, if_true, if_false, exists_eq_left', exists_eq', exists_eq, ne_eq, Try.f115, tb115_129, spPlc_q, spPlc_A, spPlc_pre, spPlc_post, spBf_q, spBf_A, spBf_pre, spBf_post]
  repeat' (first | apply And.intro | (intro _) | omega | assumption | with_reducible rfl)
  all_goals try (refine drawI (VE.Plan.first 1 (VE.Plan.alt 0 (VE.Plan.alt 2 (VE.Plan.first 3 (VE.Plan.alt 4 (VE.Plan.alt 5 (VE.Plan.alt 6 VE.Plan.nil VE.Plan.nil) VE.Plan.nil) VE.Plan.nil)) (VE.Plan.alt 3 (VE.Plan.alt 2 (VE.Plan.alt 4 (VE.Plan.alt 5 (VE.Plan.alt 6 VE.Plan.nil VE.Plan.nil) VE.Plan.nil) VE.Plan.nil) (VE.Plan.alt 4 (VE.Plan.alt 2 (VE.Plan.alt 5 (VE.Plan.alt 6 VE.Plan.nil VE.Plan.nil) VE.Plan.nil) VE.Plan.nil) VE.Plan.nil)) VE.Plan.nil)) (VE.Plan.alt 3 (VE.Plan.alt 0 (VE.Plan.alt 2 (VE.Plan.alt 4 (VE.Plan.alt 5 (VE.Plan.alt 6 VE.Plan.nil VE.Plan.nil) VE.Plan.nil) VE.Plan.nil) (VE.Plan.alt 4 (VE.Plan.alt 2 (VE.Plan.alt 5 (VE.Plan.alt 6 VE.Plan.nil VE.Plan.nil) VE.Plan.nil) VE.Plan.nil) VE.Plan.nil)) (VE.Plan.alt 4 (VE.Plan.alt 0 (VE.Plan.alt 2 (VE.Plan.alt 5 (VE.Plan.alt 6 VE.Plan.nil VE.Plan.nil) VE.Plan.nil) VE.Plan.nil) VE.Plan.nil) VE.Plan.nil)) VE.Plan.nil))) (by decide +kernel) ?_; simp (config := { maxSteps := 1000000 }) only [go_sem, ↓ifP_true, ↓ifP_false, ↓ifP_not, Nat.reduceLT, Nat.reduceAdd, Nat.reduceBEq, Nat.reduceSub, Nat.reduceLeDiff, Nat.reduceEqDiff, Nat.reduceMul, Int.reduceToNat, Int.reduceEq, Int.reduceLT, Int.reduceLE, Int.reduceAdd, Int.reduceSub, Int.reduceMul, reduceCtorEq, cond_true, cond_false, forall_eq', forall_eq, forall_const, implies_true, if_true, if_false, exists_eq_left', exists_eq', exists_eq, ne_eq, planW, stepW, Try.f115, tb115_129, spPlc_q, spPlc_A, spPlc_pre, spPlc_post, spBf_q, spBf_A, spBf_pre, spBf_post]; repeat' (first | apply And.intro | (intro _) | omega | assumption | with_reducible rfl))
  any_goals
    refine loopS (α := (List Cross) × Int) false [0, 1, 2, 3, 6, 7, 8, 9, 10, 11, 12, 13, 14, 15, 16, 17, 18, 19, 20, 21, 22, 23, 24, 25, 26, 27, 28, 29, 30, 31, 32, 33, 34, 35, 36, 37, 38, 39, 40, 41, 42, 43, 44, 45, 46, 47, 48, 49] (fun σ => [gId (σ.get 5)]) (fun σ x => [(5, .c (.own (gId (σ.get 5)) (x.1).length false)), (6, I x.2)]) (fun σ x => [(gId (σ.get 5), some ⟨(x.1).map crC, 2, 109, true, false⟩)]) (fun (o, k) => 0) (fun σ => (gL crCd σ (σ.get 5), gI (σ.get 6))) (fun σ τ => [(gId (σ.get 5), gId (τ.get 5))]) (fun (o, k) => (0 ≤ k ∧ k ≤ l.length) ∧ o = l.take k.toNat ++ c :: l.drop k.toNat) (fun (o, k) => k.toNat) ⟨by (simp (config := { maxSteps := 1000000 }) only [go_sem, ↓ifP_true, ↓ifP_false, ↓ifP_not, Nat.reduceLT, Nat.reduceAdd, Nat.reduceBEq, Nat.reduceSub, Nat.reduceLeDiff, Nat.reduceEqDiff, Nat.reduceMul, Int.reduceToNat, Int.reduceEq, Int.reduceLT, Int.reduceLE, Int.reduceAdd, Int.reduceSub, Int.reduceMul, reduceCtorEq, cond_true, cond_false, forall_eq', forall_eq, forall_const, implies_true, if_true, if_false, exists_eq_left', exists_eq', exists_eq, ne_eq, Try.f115, tb115_129, spPlc_q, spPlc_A, spPlc_pre, spPlc_post, spBf_q, spBf_A, spBf_pre, spBf_post, cr_set, cr_set2, List.length_set]; (repeat' (first | apply And.intro | (intro _) | omega | assumption | with_reducible rfl)); all_goals (first | (rw [show ((l.length + 1 : Nat) : Int) - 1 = (l.length : Int) by omega, Int.toNat_natCast]; simp))), ?_⟩
    rintro ⟨o, k⟩ hinv
    try dsimp only at hinv
    rcases elemAt o k (by omega) with ⟨hlt, x, hk⟩ | hlt
    all_goals (first | ((have hlt2 := of_eq_true hlt); (have hl := ins_l l c k.toNat); (rw [← hinv.2] at hl); (obtain rfl := ins_c hinv.2 (by omega) hk); (have hset := set_same' hk); (rcases ins_all hinv.2 hinv.1.2 with ⟨hpos, y, hy, hy2, hoth, hsw⟩ | hneg); all_goals (first | simp (config := { maxSteps := 1000000 }) only [go_sem, ↓ifP_true, ↓ifP_false, ↓ifP_not, Nat.reduceLT, Nat.reduceAdd, Nat.reduceBEq, Nat.reduceSub, Nat.reduceLeDiff, Nat.reduceEqDiff, Nat.reduceMul, Int.reduceToNat, Int.reduceEq, Int.reduceLT, Int.reduceLE, Int.reduceAdd, Int.reduceSub, Int.reduceMul, reduceCtorEq, cond_true, cond_false, forall_eq', forall_eq, forall_const, implies_true, if_true, if_false, exists_eq_left', exists_eq', exists_eq, ne_eq, Try.f115, tb115_129, spPlc_q, spPlc_A, spPlc_pre, spPlc_post, spBf_q, spBf_A, spBf_pre, spBf_post, cr_set, cr_set2, List.length_set, hlt, hk, hy2, hset, hoth] | simp (config := { maxSteps := 1000000 }) only [go_sem, ↓ifP_true, ↓ifP_false, ↓ifP_not, Nat.reduceLT, Nat.reduceAdd, Nat.reduceBEq, Nat.reduceSub, Nat.reduceLeDiff, Nat.reduceEqDiff, Nat.reduceMul, Int.reduceToNat, Int.reduceEq, Int.reduceLT, Int.reduceLE, Int.reduceAdd, Int.reduceSub, Int.reduceMul, reduceCtorEq, cond_true, cond_false, forall_eq', forall_eq, forall_const, implies_true, if_true, if_false, exists_eq_left', exists_eq', exists_eq, ne_eq, Try.f115, tb115_129, spPlc_q, spPlc_A, spPlc_pre, spPlc_post, spBf_q, spBf_A, spBf_pre, spBf_post, cr_set, cr_set2, List.length_set, hlt, hk])) | (have hlt2 := of_eq_false hlt; (first | simp (config := { maxSteps := 1000000 }) only [go_sem, ↓ifP_true, ↓ifP_false, ↓ifP_not, Nat.reduceLT, Nat.reduceAdd, Nat.reduceBEq, Nat.reduceSub, Nat.reduceLeDiff, Nat.reduceEqDiff, Nat.reduceMul, Int.reduceToNat, Int.reduceEq, Int.reduceLT, Int.reduceLE, Int.reduceAdd, Int.reduceSub, Int.reduceMul, reduceCtorEq, cond_true, cond_false, forall_eq', forall_eq, forall_const, implies_true, if_true, if_false, exists_eq_left', exists_eq', exists_eq, ne_eq, Try.f115, tb115_129, spPlc_q, spPlc_A, spPlc_pre, spPlc_post, spBf_q, spBf_A, spBf_pre, spBf_post, cr_set, cr_set2, List.length_set, hlt, hy2, hset, hoth] | simp (config := { maxSteps := 1000000 }) only [go_sem, ↓ifP_true, ↓ifP_false, ↓ifP_not, Nat.reduceLT, Nat.reduceAdd, Nat.reduceBEq, Nat.reduceSub, Nat.reduceLeDiff, Nat.reduceEqDiff, Nat.reduceMul, Int.reduceToNat, Int.reduceEq, Int.reduceLT, Int.reduceLE, Int.reduceAdd, Int.reduceSub, Int.reduceMul, reduceCtorEq, cond_true, cond_false, forall_eq', forall_eq, forall_const, implies_true, if_true, if_false, exists_eq_left', exists_eq', exists_eq, ne_eq, Try.f115, tb115_129, spPlc_q, spPlc_A, spPlc_pre, spPlc_post, spBf_q, spBf_A, spBf_pre, spBf_post, cr_set, cr_set2, List.length_set, hlt])))
    all_goals
      repeat' (first | apply And.intro | (intro _) | omega | assumption | with_reducible rfl)
    all_goals try (refine drawI (VE.Plan.first 1 (VE.Plan.alt 0 (VE.Plan.alt 2 (VE.Plan.first 3 (VE.Plan.alt 4 (VE.Plan.alt 5 (VE.Plan.alt 6 VE.Plan.nil VE.Plan.nil) VE.Plan.nil) VE.Plan.nil)) (VE.Plan.alt 3 (VE.Plan.alt 2 (VE.Plan.alt 4 (VE.Plan.alt 5 (VE.Plan.alt 6 VE.Plan.nil VE.Plan.nil) VE.Plan.nil) VE.Plan.nil) (VE.Plan.alt 4 (VE.Plan.alt 2 (VE.Plan.alt 5 (VE.Plan.alt 6 VE.Plan.nil VE.Plan.nil) VE.Plan.nil) VE.Plan.nil) VE.Plan.nil)) VE.Plan.nil)) (VE.Plan.alt 3 (VE.Plan.alt 0 (VE.Plan.alt 2 (VE.Plan.alt 4 (VE.Plan.alt 5 (VE.Plan.alt 6 VE.Plan.nil VE.Plan.nil) VE.Plan.nil) VE.Plan.nil) (VE.Plan.alt 4 (VE.Plan.alt 2 (VE.Plan.alt 5 (VE.Plan.alt 6 VE.Plan.nil VE.Plan.nil) VE.Plan.nil) VE.Plan.nil) VE.Plan.nil)) (VE.Plan.alt 4 (VE.Plan.alt 0 (VE.Plan.alt 2 (VE.Plan.alt 5 (VE.Plan.alt 6 VE.Plan.nil VE.Plan.nil) VE.Plan.nil) VE.Plan.nil) VE.Plan.nil) VE.Plan.nil)) VE.Plan.nil))) (by decide +kernel) ?_; (first | simp (config := { maxSteps := 1000000 }) only [go_sem, ↓ifP_true, ↓ifP_false, ↓ifP_not, Nat.reduceLT, Nat.reduceAdd, Nat.reduceBEq, Nat.reduceSub, Nat.reduceLeDiff, Nat.reduceEqDiff, Nat.reduceMul, Int.reduceToNat, Int.reduceEq, Int.reduceLT, Int.reduceLE, Int.reduceAdd, Int.reduceSub, Int.reduceMul, reduceCtorEq, cond_true, cond_false, forall_eq', forall_eq, forall_const, implies_true, if_true, if_false, exists_eq_left', exists_eq', exists_eq, ne_eq, planW, stepW, Try.f115, tb115_129, spPlc_q, spPlc_A, spPlc_pre, spPlc_post, spBf_q, spBf_A, spBf_pre, spBf_post, hlt, hk, hy2, hset, hoth] | simp (config := { maxSteps := 1000000 }) only [go_sem, ↓ifP_true, ↓ifP_false, ↓ifP_not, Nat.reduceLT, Nat.reduceAdd, Nat.reduceBEq, Nat.reduceSub, Nat.reduceLeDiff, Nat.reduceEqDiff, Nat.reduceMul, Int.reduceToNat, Int.reduceEq, Int.reduceLT, Int.reduceLE, Int.reduceAdd, Int.reduceSub, Int.reduceMul, reduceCtorEq, cond_true, cond_false, forall_eq', forall_eq, forall_const, implies_true, if_true, if_false, exists_eq_left', exists_eq', exists_eq, ne_eq, planW, stepW, Try.f115, tb115_129, spPlc_q, spPlc_A, spPlc_pre, spPlc_post, spBf_q, spBf_A, spBf_pre, spBf_post, hlt, hk] | simp (config := { maxSteps := 1000000 }) only [go_sem, ↓ifP_true, ↓ifP_false, ↓ifP_not, Nat.reduceLT, Nat.reduceAdd, Nat.reduceBEq, Nat.reduceSub, Nat.reduceLeDiff, Nat.reduceEqDiff, Nat.reduceMul, Int.reduceToNat, Int.reduceEq, Int.reduceLT, Int.reduceLE, Int.reduceAdd, Int.reduceSub, Int.reduceMul, reduceCtorEq, cond_true, cond_false, forall_eq', forall_eq, forall_const, implies_true, if_true, if_false, exists_eq_left', exists_eq', exists_eq, ne_eq, planW, stepW, Try.f115, tb115_129, spPlc_q, spPlc_A, spPlc_pre, spPlc_post, spBf_q, spBf_A, spBf_pre, spBf_post]); repeat' (first | apply And.intro | (intro _) | omega | assumption | with_reducible rfl))
  
  all_goals (first | (exact ⟨k.toNat, by omega, by omega, by rw [congrArg (List.map crC) hinv.2, List.map_append, List.map_cons]⟩; done) | ((have hl := ins_l l c k.toNat; rw [← hinv.2] at hl; exfalso; omega); done) | ((exfalso; omega); done))
theorem sat_spec_place : Sat Try.prog rt0 115 (wkIn spPlc) := sat_in (sat_out sat_spec_place_0)
end Go.Proofs.Ytjjmjidchehffaa
end
section
set_option maxRecDepth 100000
set_option linter.unusedSimpArgs false
set_option linter.unusedVariables false
namespace Go.Proofs.Ytjjmjidchehffaa
open Go Go.VE
theorem span_bad {l : List Span} {i : Int} {p : Span} {c : Int} (hk : l[i.toNat]? = some p) (h : okS p = false) : -1 = spanN l c := by
  rw [spanN, all_bad hk h]; simp
theorem span_end {l : List Span} {i n c : Int} (h : ¬ i < (l.length : Int)) (hi : (l.take i.toNat).all okS = true ∧ n = ovls (l.take i.toNat) c) (hl : ¬ 40 < (l.length : Int)) (h0 : 0 ≤ c) (h1 : c ≤ 11) : n = spanN l c := by
  rw [takeA (by omega)] at hi
  rw [spanN, hi.1, decide_eq_true (by omega), decide_eq_true (by omega)]
  exact hi.2
theorem span_len {l : List Span} {c : Int} (h : 40 < (l.length : Int)) : -1 = spanN l c := by
  rw [spanN, decide_eq_false (by omega)]; rfl
theorem span_col {l : List Span} {c : Int} (h : ¬ (0 ≤ c ∧ c ≤ 11)) : -1 = spanN l c := by
  rw [spanN, decide_eq_false h]; simp
theorem ovl_eq (p : Span) (c : Int) : max 0 (min p.t ((c + 1) * 4) - max p.f (c * 4)) = ovl p c := by unfold ovl; omega
theorem ovl_eq2 (p : Span) (c : Int) : max 0 (min p.t (4 * (c + 1)) - max p.f (4 * c)) = ovl p c := by unfold ovl; omega
def tb16 : Nat → Option VE.Spec := tabOf [(54, wkIn spIn)]
theorem tb16_54 : tb16 54 = some (wkIn spIn) := rfl
theorem tb16_ok : TabOK Try.prog rt0 tb16 := (tabOf_cons (by kernel_rfl) sat_impl_in tabOf_nil)
set_option maxHeartbeats 4000000 in
theorem sat_impl_SpanCover_0 : Sat Try.prog rt0 16 (wkOut spSpanC) := by
  refine fn_sat hm ttok (tab := tb16) tb16_ok Try.func16 (c := Try.f16.body.getD .skip) (by kernel_rfl) (ts := [.tmp 4]) (by kernel_rfl) Try.ntmps16 (sq := fun _ => true) (by kernel_rfl) ?_
  intro args ins pk hpre0 hpk
  obtain ⟨rfl, hpre0⟩ := hpre0
  obtain ⟨⟨l, c⟩, rfl, hpre, hdec⟩ := famPre_ex hpre0
  clear hpre0 hdec
  try simp only [spSpanC_pre] at hpre
  replace hpk : pk + 0 ≤ pickLimit := hpk
  refine ⟨Nat.le_of_ble_eq_true rfl, ?_⟩
  simp (config := { maxSteps := 1000000 }) only [go_sem, ↓ifP_true, ↓ifP_false, ↓ifP_not, Nat.reduceLT, Nat.reduceAdd, Nat.reduceBEq, Nat.reduceSub, Nat.reduceLeDiff, Nat.reduceEqDiff, Nat.reduceMul, Int.reduceToNat, Int.reduceEq, Int.reduceLT, Int.reduceLE, Int.reduceAdd, Int.reduceSub, Int.reduceMul, reduceCtorEq, cond_true, cond_false, forall_eq', forall_eq, forall_const, implies_true, if_true, if_false, exists_eq_left', exists_eq', exists_eq, ne_eq, Try.f16, tb16_54, spSpanC_q, spSpanC_A, spSpanC_pre, spSpanC_post, spIn_q, spIn_A, spIn_pre, spIn_post]
  repeat' (first | apply And.intro | (intro _) | omega | assumption | with_reducible rfl)
  any_goals
    refine loopS (α := Int × Int) false [0, 2, 3, 4, 5, 6, 7, 8, 9, 10, 11, 12, 13, 14, 15, 18, 19, 20, 21, 22, 23, 24, 25, 26, 27, 28, 29, 30, 31, 32, 33, 34, 35, 36, 37, 38, 39, 40, 41, 42, 43, 44, 45, 46, 47, 48, 49, 50, 51, 52] (fun σ => []) (fun σ x => [(5, I x.1), (18, I x.2)]) (fun σ x => []) (fun (n, i) => 0) (fun σ => (gI (σ.get 5), gI (σ.get 18))) (fun σ τ => []) (fun (n, i) => 0 ≤ i ∧ i ≤ l.length ∧ (l.take i.toNat).all okS = true ∧ n = ovls (l.take i.toNat) c) (fun (n, i) => (l.length - i).toNat) ⟨by (simp (config := { maxSteps := 1000000 }) only [go_sem, ↓ifP_true, ↓ifP_false, ↓ifP_not, Nat.reduceLT, Nat.reduceAdd, Nat.reduceBEq, Nat.reduceSub, Nat.reduceLeDiff, Nat.reduceEqDiff, Nat.reduceMul, Int.reduceToNat, Int.reduceEq, Int.reduceLT, Int.reduceLE, Int.reduceAdd, Int.reduceSub, Int.reduceMul, reduceCtorEq, cond_true, cond_false, forall_eq', forall_eq, forall_const, implies_true, if_true, if_false, exists_eq_left', exists_eq', exists_eq, ne_eq, Try.f16, tb16_54, spSpanC_q, spSpanC_A, spSpanC_pre, spSpanC_post, spIn_q, spIn_A, spIn_pre, spIn_post]; (repeat' (first | apply And.intro | (intro _) | omega | assumption | with_reducible rfl)); all_goals (first | rfl)), ?_⟩
    rintro ⟨n, i⟩ hinv
    try dsimp only at hinv
    rcases elemAt l i (by omega) with ⟨hlt, p, hk⟩ | hlt
    all_goals (first | ((have hlt2 := of_eq_true hlt); all_goals simp (config := { maxSteps := 1000000 }) only [go_sem, ↓ifP_true, ↓ifP_false, ↓ifP_not, Nat.reduceLT, Nat.reduceAdd, Nat.reduceBEq, Nat.reduceSub, Nat.reduceLeDiff, Nat.reduceEqDiff, Nat.reduceMul, Int.reduceToNat, Int.reduceEq, Int.reduceLT, Int.reduceLE, Int.reduceAdd, Int.reduceSub, Int.reduceMul, reduceCtorEq, cond_true, cond_false, forall_eq', forall_eq, forall_const, implies_true, if_true, if_false, exists_eq_left', exists_eq', exists_eq, ne_eq, Try.f16, tb16_54, spSpanC_q, spSpanC_A, spSpanC_pre, spSpanC_post, spIn_q, spIn_A, spIn_pre, spIn_post, hlt, hk]) | (have hlt2 := of_eq_false hlt; simp (config := { maxSteps := 1000000 }) only [go_sem, ↓ifP_true, ↓ifP_false, ↓ifP_not, Nat.reduceLT, Nat.reduceAdd, Nat.reduceBEq, Nat.reduceSub, Nat.reduceLeDiff, Nat.reduceEqDiff, Nat.reduceMul, Int.reduceToNat, Int.reduceEq, Int.reduceLT, Int.reduceLE, Int.reduceAdd, Int.reduceSub, Int.reduceMul, reduceCtorEq, cond_true, cond_false, forall_eq', forall_eq, forall_const, implies_true, if_true, if_false, exists_eq_left', exists_eq', exists_eq, ne_eq, Try.f16, tb16_54, spSpanC_q, spSpanC_A, spSpanC_pre, spSpanC_post, spIn_q, spIn_A, spIn_pre, spIn_post, hlt]))
    all_goals
      repeat' (first | apply And.intro | (intro _) | omega | assumption | with_reducible rfl)
  
  all_goals (first | (exact span_len ‹_›; done) | (exact span_col (by omega); done) | (exact span_bad hk (by simp only [okS, decide_eq_false_iff_not]; omega); done) | ((have h9 := ovls_bd c hinv.2.2.1; have h8 := ovl_bd (p := p) (by simp only [okS, decide_eq_true_eq]; omega) c; rw [List.length_take] at h9; simp only [ovl_eq, ovl_eq2]; omega); done) | ((rw [takeN hk hinv.1, List.all_append, hinv.2.2.1]; simp only [List.all_cons, List.all_nil, Bool.and_true, Bool.true_and]; simp only [okS, decide_eq_true_eq]; omega); done) | ((rw [takeN hk hinv.1, ovls_snoc, hinv.2.2.2]; simp only [ovl_eq, ovl_eq2]); done) | (exact span_end hlt2 hinv.2.2 ‹_› ‹_› ‹_›; done))
theorem sat_impl_SpanCover : Sat Try.prog rt0 16 (wkIn spSpanC) := sat_in (sat_out sat_impl_SpanCover_0)
def tb17 : Nat → Option VE.Spec := tabOf [(55, wkIn spIn)]
theorem tb17_55 : tb17 55 = some (wkIn spIn) := rfl
theorem tb17_ok : TabOK Try.prog rt0 tb17 := (tabOf_cons (by kernel_rfl) sat_spec_inRange tabOf_nil)
set_option maxHeartbeats 4000000 in
theorem sat_spec_SpanCover_0 : Sat Try.prog rt0 17 (wkOut spSpanC) := by
  refine fn_sat hm ttok (tab := tb17) tb17_ok Try.func17 (c := Try.f17.body.getD .skip) (by kernel_rfl) (ts := [.tmp 4]) (by kernel_rfl) Try.ntmps17 (sq := fun _ => true) (by kernel_rfl) ?_
  intro args ins pk hpre0 hpk
  obtain ⟨rfl, hpre0⟩ := hpre0
  obtain ⟨⟨l, c⟩, rfl, hpre, hdec⟩ := famPre_ex hpre0
  clear hpre0 hdec
  try simp only [spSpanC_pre] at hpre
  replace hpk : pk + 0 ≤ pickLimit := hpk
  refine ⟨Nat.le_of_ble_eq_true rfl, ?_⟩
  simp (config := { maxSteps := 1000000 }) only [go_sem, ↓ifP_true, ↓ifP_false, ↓ifP_not, Nat.reduceLT, Nat.reduceAdd, Nat.reduceBEq, Nat.reduceSub, Nat.reduceLeDiff, Nat.reduceEqDiff, Nat.reduceMul, Int.reduceToNat, Int.reduceEq, Int.reduceLT, Int.reduceLE, Int.reduceAdd, Int.reduceSub, Int.reduceMul, reduceCtorEq, cond_true, cond_false, forall_eq', forall_eq, forall_const, implies_true, if_true, if_false, exists_eq_left', exists_eq', exists_eq, ne_eq, Try.f17, tb17_55, spSpanC_q, spSpanC_A, spSpanC_pre, spSpanC_post, spIn_q, spIn_A, spIn_pre, spIn_post]
  repeat' (first | apply And.intro | (intro _) | omega | assumption | with_reducible rfl)
  any_goals
    refine loopS (α := Int × Int) false [2, 3, 4, 5, 6, 7, 8, 9, 10, 11, 12, 13, 14, 15, 16, 17, 18, 19, 20, 21, 22, 23, 24, 25, 26, 27, 28, 29, 30, 31, 32, 33, 34, 35, 36, 37, 38, 39, 40, 41, 42, 43, 44, 45, 46, 47, 48, 49, 50, 51, 52, 53, 54, 55, 56, 57, 58, 59, 60, 61] (fun σ => []) (fun σ x => [(5, I x.1), (6, I x.2)]) (fun σ x => []) (fun (n, i) => 0) (fun σ => (gI (σ.get 5), gI (σ.get 6))) (fun σ τ => []) (fun (n, i) => 0 ≤ i ∧ i ≤ l.length ∧ (l.take i.toNat).all okS = true ∧ n = ovls (l.take i.toNat) c) (fun (n, i) => (l.length - i).toNat) ⟨by (simp (config := { maxSteps := 1000000 }) only [go_sem, ↓ifP_true, ↓ifP_false, ↓ifP_not, Nat.reduceLT, Nat.reduceAdd, Nat.reduceBEq, Nat.reduceSub, Nat.reduceLeDiff, Nat.reduceEqDiff, Nat.reduceMul, Int.reduceToNat, Int.reduceEq, Int.reduceLT, Int.reduceLE, Int.reduceAdd, Int.reduceSub, Int.reduceMul, reduceCtorEq, cond_true, cond_false, forall_eq', forall_eq, forall_const, implies_true, if_true, if_false, exists_eq_left', exists_eq', exists_eq, ne_eq, Try.f17, tb17_55, spSpanC_q, spSpanC_A, spSpanC_pre, spSpanC_post, spIn_q, spIn_A, spIn_pre, spIn_post]; (repeat' (first | apply And.intro | (intro _) | omega | assumption | with_reducible rfl)); all_goals (first | rfl)), ?_⟩
    rintro ⟨n, i⟩ hinv
    try dsimp only at hinv
    rcases elemAt l i (by omega) with ⟨hlt, p, hk⟩ | hlt
    all_goals (first | ((have hlt2 := of_eq_true hlt); all_goals simp (config := { maxSteps := 1000000 }) only [go_sem, ↓ifP_true, ↓ifP_false, ↓ifP_not, Nat.reduceLT, Nat.reduceAdd, Nat.reduceBEq, Nat.reduceSub, Nat.reduceLeDiff, Nat.reduceEqDiff, Nat.reduceMul, Int.reduceToNat, Int.reduceEq, Int.reduceLT, Int.reduceLE, Int.reduceAdd, Int.reduceSub, Int.reduceMul, reduceCtorEq, cond_true, cond_false, forall_eq', forall_eq, forall_const, implies_true, if_true, if_false, exists_eq_left', exists_eq', exists_eq, ne_eq, Try.f17, tb17_55, spSpanC_q, spSpanC_A, spSpanC_pre, spSpanC_post, spIn_q, spIn_A, spIn_pre, spIn_post, hlt, hk]) | (have hlt2 := of_eq_false hlt; simp (config := { maxSteps := 1000000 }) only [go_sem, ↓ifP_true, ↓ifP_false, ↓ifP_not, Nat.reduceLT, Nat.reduceAdd, Nat.reduceBEq, Nat.reduceSub, Nat.reduceLeDiff, Nat.reduceEqDiff, Nat.reduceMul, Int.reduceToNat, Int.reduceEq, Int.reduceLT, Int.reduceLE, Int.reduceAdd, Int.reduceSub, Int.reduceMul, reduceCtorEq, cond_true, cond_false, forall_eq', forall_eq, forall_const, implies_true, if_true, if_false, exists_eq_left', exists_eq', exists_eq, ne_eq, Try.f17, tb17_55, spSpanC_q, spSpanC_A, spSpanC_pre, spSpanC_post, spIn_q, spIn_A, spIn_pre, spIn_post, hlt]))
    all_goals
      repeat' (first | apply And.intro | (intro _) | omega | assumption | with_reducible rfl)
  
  all_goals (first | (exact span_len ‹_›; done) | (exact span_col (by omega); done) | (exact span_bad hk (by simp only [okS, decide_eq_false_iff_not]; omega); done) | ((have h9 := ovls_bd c hinv.2.2.1; have h8 := ovl_bd (p := p) (by simp only [okS, decide_eq_true_eq]; omega) c; rw [List.length_take] at h9; simp only [ovl_eq, ovl_eq2]; omega); done) | ((rw [takeN hk hinv.1, List.all_append, hinv.2.2.1]; simp only [List.all_cons, List.all_nil, Bool.and_true, Bool.true_and]; simp only [okS, decide_eq_true_eq]; omega); done) | ((rw [takeN hk hinv.1, ovls_snoc, hinv.2.2.2]; simp only [ovl_eq, ovl_eq2]); done) | (exact span_end hlt2 hinv.2.2 ‹_› ‹_› ‹_›; done))
theorem sat_spec_SpanCover : Sat Try.prog rt0 17 (wkIn spSpanC) := sat_in (sat_out sat_spec_SpanCover_0)
end Go.Proofs.Ytjjmjidchehffaa
end
section
set_option maxRecDepth 100000
set_option linter.unusedSimpArgs false
set_option linter.unusedVariables false
namespace Go.Proofs.Ytjjmjidchehffaa
open Go Go.VE
structure okX (l : List Cross) : Prop where
  all : ∀ c ∈ l, (0 ≤ c.a ∧ c.a ≤ 48) ∧ -1 ≤ c.s ∧ c.s ≤ 1
theorem okX.nil : okX [] := ⟨by intro c h; cases h⟩
theorem okX.ins {l : List Cross} {c : Cross} {k : Nat} (h : okX l) (h0 : 0 ≤ c.a) (h1 : c.a ≤ 48) (h2 : -1 ≤ c.s) (h3 : c.s ≤ 1) : okX (l.take k ++ c :: l.drop k) := ⟨fun x hx => by
  simp only [List.mem_append, List.mem_cons] at hx
  rcases hx with hx | rfl | hx
  · exact h.all x (List.mem_of_mem_take hx)
  · exact ⟨⟨h0, h1⟩, h2, h3⟩
  · exact h.all x (List.mem_of_mem_drop hx)⟩
theorem okV2 {c : C} {a b : Value} (h : c ∈ [C.v a, C.v b]) : okV c = true := by
  simp only [List.mem_cons, List.not_mem_nil, or_false] at h
  rcases h with rfl | rfl <;> rfl
theorem sp_map (o : List Span) (f t : Int) : o.map spC ++ [[.v (.int .i64 f), .v (.int .i64 t)]] = (o ++ [(⟨f, t⟩ : Span)]).map spC := by rw [List.map_append]; rfl
theorem ins_len {l : List Cross} {c : Cross} {k : Nat} : (l.take k ++ c :: l.drop k).length = l.length + 1 := by
  simp only [List.length_append, List.length_take, List.length_cons, List.length_drop]; omega
def spCrs_A : (List (List Pt)) × Int → List AV
  | (L, y) => [.c (.sl false (L.map lptC)), I y]
def spCrs_pre : (List (List Pt)) × Int → Prop
  | (L, y) => vRings L = true ∧ -3000 ≤ y ∧ y ≤ 3000
def spCrs_post : (List (List Pt)) × Int → AV → List Box → Prop
  | (L, y), r, bs => ∃ l : List Cross, r = .c (.own 0 l.length false) ∧ bs = [⟨l.map crC, 2, 109, true, false⟩] ∧ l.length ≤ 200 ∧ okX l
def spCrs : VE.Spec := famSpec spCrs_A d_llpt_i spCrs_pre spCrs_post 0 true
theorem spCrs_q : spCrs.flat = true ∧ spCrs.mt = [] ∧ spCrs.shut = false ∧ spCrs.cost = 0 ∧ (∀ a i, spCrs.pre a i = (i = [] ∧ famPre d_llpt_i spCrs_A spCrs_pre a)) ∧ ∀ a i r b, spCrs.post a i r b = (famPost d_llpt_i spCrs_post a r b) := ⟨rfl, rfl, rfl, rfl, fun _ _ => rfl, fun _ _ _ _ => rfl⟩
def tb91 : Nat → Option VE.Spec := tabOf [(112, wkIn spToInt), (55, wkIn spIn), (116, wkIn spFst), (115, wkIn spPlc)]
theorem tb91_112 : tb91 112 = some (wkIn spToInt) := rfl
theorem tb91_55 : tb91 55 = some (wkIn spIn) := rfl
theorem tb91_116 : tb91 116 = some (wkIn spFst) := rfl
theorem tb91_115 : tb91 115 = some (wkIn spPlc) := rfl
theorem tb91_ok : TabOK Try.prog rt0 tb91 := (tabOf_cons (by kernel_rfl) sat_spec_toInt (tabOf_cons (by kernel_rfl) sat_spec_inRange (tabOf_cons (by kernel_rfl) sat_spec_firstSample (tabOf_cons (by kernel_rfl) sat_spec_place tabOf_nil))))
set_option maxHeartbeats 4000000 in
theorem sat_spec_crossings_0 : Sat Try.prog rt0 91 (wkOut spCrs) := by
  refine fn_sat hm ttok (tab := tb91) tb91_ok Try.func91 (c := Try.f91.body.getD .skip) (by kernel_rfl) (ts := [.tmp 4]) (by kernel_rfl) Try.ntmps91 (sq := fun id => !(id == 11)) (by kernel_rfl) ?_
  intro args ins pk hpre0 hpk
  obtain ⟨rfl, hpre0⟩ := hpre0
  obtain ⟨⟨L, y⟩, rfl, hpre, hdec⟩ := famPre_ex hpre0
  clear hpre0 hdec
  try simp only [spCrs_pre] at hpre
  replace hpk : pk + 0 ≤ pickLimit := hpk
  refine ⟨Nat.le_of_ble_eq_true rfl, ?_⟩
  simp (config := { maxSteps := 1000000 }) only [go_sem, ↓ifP_true, ↓ifP_false, ↓ifP_not, Nat.reduceLT, Nat.reduceAdd, Nat.reduceBEq, Nat.reduceSub, Nat.reduceLeDiff, Nat.reduceEqDiff, Nat.reduceMul, Int.reduceToNat, Int.reduceEq, Int.reduceLT, Int.reduceLE, Int.reduceAdd, Int.reduceSub, Int.reduceMul, reduceCtorEq, cond_true, cond_false, forall_eq', forall_eq, forall_const, implies_true, if_true, if_false, exists_eq_left', exists_eq', exists_eq, ne_eq, Try.f91, tb91_112, tb91_55, tb91_116, tb91_115, spCrs_q, spCrs_A, spCrs_pre, spCrs_post, spToInt_q, spToInt_A, spToInt_pre, spToInt_post, spIn_q, spIn_A, spIn_pre, spIn_post, spFst_q, spFst_A, spFst_pre, spFst_post, spPlc_q, spPlc_A, spPlc_pre, spPlc_post]
  repeat' (first | apply And.intro | (intro _) | omega | assumption | with_reducible rfl)
  all_goals try (refine drawI (VE.Plan.first 0 (VE.Plan.first 1 (VE.Plan.first 2 (VE.Plan.first 3 (VE.Plan.first 5 (VE.Plan.first 6 (VE.Plan.first 7 (VE.Plan.first 8 (VE.Plan.first 9 (VE.Plan.first 11 (VE.Plan.first 12 (VE.Plan.first 13 (VE.Plan.first 14 (VE.Plan.first 15 (VE.Plan.alt 4 (VE.Plan.alt 10 (VE.Plan.alt 16 (VE.Plan.first 17 (VE.Plan.first 18 (VE.Plan.alt 19 (VE.Plan.alt 20 VE.Plan.nil VE.Plan.nil) VE.Plan.nil))) VE.Plan.nil) VE.Plan.nil) VE.Plan.nil))))))))))))))) (by decide +kernel) ?_; simp (config := { maxSteps := 1000000 }) only [go_sem, ↓ifP_true, ↓ifP_false, ↓ifP_not, Nat.reduceLT, Nat.reduceAdd, Nat.reduceBEq, Nat.reduceSub, Nat.reduceLeDiff, Nat.reduceEqDiff, Nat.reduceMul, Int.reduceToNat, Int.reduceEq, Int.reduceLT, Int.reduceLE, Int.reduceAdd, Int.reduceSub, Int.reduceMul, reduceCtorEq, cond_true, cond_false, forall_eq', forall_eq, forall_const, implies_true, if_true, if_false, exists_eq_left', exists_eq', exists_eq, ne_eq, planW, stepW, Try.f91, tb91_112, tb91_55, tb91_116, tb91_115, spCrs_q, spCrs_A, spCrs_pre, spCrs_post, spToInt_q, spToInt_A, spToInt_pre, spToInt_post, spIn_q, spIn_A, spIn_pre, spIn_post, spFst_q, spFst_A, spFst_pre, spFst_post, spPlc_q, spPlc_A, spPlc_pre, spPlc_post]; repeat' (first | apply And.intro | (intro _) | omega | assumption | with_reducible rfl))
  refine loopS (α := (List Cross) × Int) false [2, 3, 5, 6, 7, 8, 9, 10, 11, 12, 13, 14, 15, 16, 17, 18, 19, 20, 21, 22, 23, 24, 25, 26, 27, 28, 29, 30, 31, 32, 33, 34, 35, 36, 37, 38, 39, 40, 41, 42, 43, 44, 45, 46, 47, 48, 49, 50, 51, 52, 53, 54, 55, 56, 57, 58, 59, 60, 61, 62, 63, 64, 65, 66, 67, 68, 69, 70, 71, 72, 73, 74, 75, 76, 77, 78, 79, 80, 81, 82, 83, 84, 85, 86, 87] (fun σ => [gId (σ.get 5)]) (fun σ x => [(5, .c (.own (gId (σ.get 5)) (x.1).length false)), (6, I x.2)]) (fun σ x => [(gId (σ.get 5), some ⟨(x.1).map crC, 2, 109, true, false⟩)]) (fun (o, i) => 0) (fun σ => (gL crCd σ (σ.get 5), gI (σ.get 6))) (fun σ τ => [(gId (σ.get 5), gId (τ.get 5))]) (fun (o, i) => (0 ≤ i ∧ i ≤ L.length) ∧ o.length ≤ total (L.take i.toNat) ∧ okX o) (fun (o, i) => (L.length - i).toNat) ⟨by (simp (config := { maxSteps := 1000000 }) only [go_sem, ↓ifP_true, ↓ifP_false, ↓ifP_not, Nat.reduceLT, Nat.reduceAdd, Nat.reduceBEq, Nat.reduceSub, Nat.reduceLeDiff, Nat.reduceEqDiff, Nat.reduceMul, Int.reduceToNat, Int.reduceEq, Int.reduceLT, Int.reduceLE, Int.reduceAdd, Int.reduceSub, Int.reduceMul, reduceCtorEq, cond_true, cond_false, forall_eq', forall_eq, forall_const, implies_true, if_true, if_false, exists_eq_left', exists_eq', exists_eq, ne_eq, Try.f91, tb91_112, tb91_55, tb91_116, tb91_115, spCrs_q, spCrs_A, spCrs_pre, spCrs_post, spToInt_q, spToInt_A, spToInt_pre, spToInt_post, spIn_q, spIn_A, spIn_pre, spIn_post, spFst_q, spFst_A, spFst_pre, spFst_post, spPlc_q, spPlc_A, spPlc_pre, spPlc_post]; (repeat' (first | apply And.intro | (intro _) | omega | assumption | with_reducible rfl)); all_goals (first | exact okX.nil | simp [total])), ?_⟩
  rintro ⟨o, i⟩ hinv
  try dsimp only at hinv
  rcases elemAt L i (by omega) with ⟨hlt, r, hk⟩ | hlt
  all_goals (first | ((have hlt2 := of_eq_true hlt); (have hT := total_mem hk); (have h8 := vRings_len hpre.1); all_goals simp (config := { maxSteps := 1000000 }) only [go_sem, ↓ifP_true, ↓ifP_false, ↓ifP_not, Nat.reduceLT, Nat.reduceAdd, Nat.reduceBEq, Nat.reduceSub, Nat.reduceLeDiff, Nat.reduceEqDiff, Nat.reduceMul, Int.reduceToNat, Int.reduceEq, Int.reduceLT, Int.reduceLE, Int.reduceAdd, Int.reduceSub, Int.reduceMul, reduceCtorEq, cond_true, cond_false, forall_eq', forall_eq, forall_const, implies_true, if_true, if_false, exists_eq_left', exists_eq', exists_eq, ne_eq, Try.f91, tb91_112, tb91_55, tb91_116, tb91_115, spCrs_q, spCrs_A, spCrs_pre, spCrs_post, spToInt_q, spToInt_A, spToInt_pre, spToInt_post, spIn_q, spIn_A, spIn_pre, spIn_post, spFst_q, spFst_A, spFst_pre, spFst_post, spPlc_q, spPlc_A, spPlc_pre, spPlc_post, hlt, hk]) | (have hlt2 := of_eq_false hlt; simp (config := { maxSteps := 1000000 }) only [go_sem, ↓ifP_true, ↓ifP_false, ↓ifP_not, Nat.reduceLT, Nat.reduceAdd, Nat.reduceBEq, Nat.reduceSub, Nat.reduceLeDiff, Nat.reduceEqDiff, Nat.reduceMul, Int.reduceToNat, Int.reduceEq, Int.reduceLT, Int.reduceLE, Int.reduceAdd, Int.reduceSub, Int.reduceMul, reduceCtorEq, cond_true, cond_false, forall_eq', forall_eq, forall_const, implies_true, if_true, if_false, exists_eq_left', exists_eq', exists_eq, ne_eq, Try.f91, tb91_112, tb91_55, tb91_116, tb91_115, spCrs_q, spCrs_A, spCrs_pre, spCrs_post, spToInt_q, spToInt_A, spToInt_pre, spToInt_post, spIn_q, spIn_A, spIn_pre, spIn_post, spFst_q, spFst_A, spFst_pre, spFst_post, spPlc_q, spPlc_A, spPlc_pre, spPlc_post, hlt]))
  all_goals
    repeat' (first | apply And.intro | (intro _) | omega | assumption | with_reducible rfl)
  all_goals try (refine drawI (VE.Plan.first 0 (VE.Plan.first 1 (VE.Plan.first 2 (VE.Plan.first 3 (VE.Plan.first 5 (VE.Plan.first 6 (VE.Plan.first 7 (VE.Plan.first 8 (VE.Plan.first 9 (VE.Plan.first 11 (VE.Plan.first 12 (VE.Plan.first 13 (VE.Plan.first 14 (VE.Plan.first 15 (VE.Plan.alt 4 (VE.Plan.alt 10 (VE.Plan.alt 16 (VE.Plan.first 17 (VE.Plan.first 18 (VE.Plan.alt 19 (VE.Plan.alt 20 VE.Plan.nil VE.Plan.nil) VE.Plan.nil))) VE.Plan.nil) VE.Plan.nil) VE.Plan.nil))))))))))))))) (by decide +kernel) ?_; (first | simp (config := { maxSteps := 1000000 }) only [go_sem, ↓ifP_true, ↓ifP_false, ↓ifP_not, Nat.reduceLT, Nat.reduceAdd, Nat.reduceBEq, Nat.reduceSub, Nat.reduceLeDiff, Nat.reduceEqDiff, Nat.reduceMul, Int.reduceToNat, Int.reduceEq, Int.reduceLT, Int.reduceLE, Int.reduceAdd, Int.reduceSub, Int.reduceMul, reduceCtorEq, cond_true, cond_false, forall_eq', forall_eq, forall_const, implies_true, if_true, if_false, exists_eq_left', exists_eq', exists_eq, ne_eq, planW, stepW, Try.f91, tb91_112, tb91_55, tb91_116, tb91_115, spCrs_q, spCrs_A, spCrs_pre, spCrs_post, spToInt_q, spToInt_A, spToInt_pre, spToInt_post, spIn_q, spIn_A, spIn_pre, spIn_post, spFst_q, spFst_A, spFst_pre, spFst_post, spPlc_q, spPlc_A, spPlc_pre, spPlc_post, hlt, hk] | simp (config := { maxSteps := 1000000 }) only [go_sem, ↓ifP_true, ↓ifP_false, ↓ifP_not, Nat.reduceLT, Nat.reduceAdd, Nat.reduceBEq, Nat.reduceSub, Nat.reduceLeDiff, Nat.reduceEqDiff, Nat.reduceMul, Int.reduceToNat, Int.reduceEq, Int.reduceLT, Int.reduceLE, Int.reduceAdd, Int.reduceSub, Int.reduceMul, reduceCtorEq, cond_true, cond_false, forall_eq', forall_eq, forall_const, implies_true, if_true, if_false, exists_eq_left', exists_eq', exists_eq, ne_eq, planW, stepW, Try.f91, tb91_112, tb91_55, tb91_116, tb91_115, spCrs_q, spCrs_A, spCrs_pre, spCrs_post, spToInt_q, spToInt_A, spToInt_pre, spToInt_post, spIn_q, spIn_A, spIn_pre, spIn_post, spFst_q, spFst_A, spFst_pre, spFst_post, spPlc_q, spPlc_A, spPlc_pre, spPlc_post]); repeat' (first | apply And.intro | (intro _) | omega | assumption | with_reducible rfl))
  any_goals
    have hk0 := hk
    have hlt0 := hlt
    refine loopS (α := (List Cross) × Int) false [2, 3, 5, 7, 8, 9, 10, 11, 12, 13, 14, 15, 16, 17, 18, 19, 20, 21, 22, 23, 24, 25, 26, 27, 28, 29, 30, 31, 32, 33, 34, 35, 36, 37, 38, 39, 40, 41, 42, 43, 44, 45, 46, 47, 48, 49, 50, 51, 52, 53, 54, 55, 56, 57, 58, 59, 60, 61, 62, 63, 64, 65, 66, 67, 68, 69, 70, 71, 72, 73, 74, 75, 76, 77, 78, 79, 80, 81, 82, 83, 84, 85, 86, 87] (fun σ => [gId (σ.get 5)]) (fun σ x => [(5, .c (.own (gId (σ.get 5)) (x.1).length false)), (7, I x.2)]) (fun σ x => [(gId (σ.get 5), some ⟨(x.1).map crC, 2, 109, true, false⟩)]) (fun (o, k) => 0) (fun σ => (gL crCd σ (σ.get 5), gI (σ.get 7))) (fun σ τ => [(gId (σ.get 5), gId (τ.get 5))]) (fun (o, k) => (0 ≤ k ∧ k ≤ r.length) ∧ o.length ≤ total (L.take i.toNat) + k.toNat ∧ okX o) (fun (o, k) => (r.length - k).toNat) ⟨by (simp (config := { maxSteps := 1000000 }) only [go_sem, ↓ifP_true, ↓ifP_false, ↓ifP_not, Nat.reduceLT, Nat.reduceAdd, Nat.reduceBEq, Nat.reduceSub, Nat.reduceLeDiff, Nat.reduceEqDiff, Nat.reduceMul, Int.reduceToNat, Int.reduceEq, Int.reduceLT, Int.reduceLE, Int.reduceAdd, Int.reduceSub, Int.reduceMul, reduceCtorEq, cond_true, cond_false, forall_eq', forall_eq, forall_const, implies_true, if_true, if_false, exists_eq_left', exists_eq', exists_eq, ne_eq, Try.f91, tb91_112, tb91_55, tb91_116, tb91_115, spCrs_q, spCrs_A, spCrs_pre, spCrs_post, spToInt_q, spToInt_A, spToInt_pre, spToInt_post, spIn_q, spIn_A, spIn_pre, spIn_post, spFst_q, spFst_A, spFst_pre, spFst_post, spPlc_q, spPlc_A, spPlc_pre, spPlc_post]; (repeat' (first | apply And.intro | (intro _) | omega | assumption | with_reducible rfl)); all_goals (first | exact hinv.2.2 | (have := hinv.2.1; omega))), ?_⟩
    rintro ⟨o, k⟩ hinv
    try dsimp only at hinv
    rcases elemAt r k (by omega) with ⟨hlt, p, hk⟩ | hlt
    all_goals (first | ((have hlt2 := of_eq_true hlt); (have hp := ok_at hpre.1 hk0 hk); all_goals (first | simp (config := { maxSteps := 1000000 }) only [go_sem, ↓ifP_true, ↓ifP_false, ↓ifP_not, Nat.reduceLT, Nat.reduceAdd, Nat.reduceBEq, Nat.reduceSub, Nat.reduceLeDiff, Nat.reduceEqDiff, Nat.reduceMul, Int.reduceToNat, Int.reduceEq, Int.reduceLT, Int.reduceLE, Int.reduceAdd, Int.reduceSub, Int.reduceMul, reduceCtorEq, cond_true, cond_false, forall_eq', forall_eq, forall_const, implies_true, if_true, if_false, exists_eq_left', exists_eq', exists_eq, ne_eq, Try.f91, tb91_112, tb91_55, tb91_116, tb91_115, spCrs_q, spCrs_A, spCrs_pre, spCrs_post, spToInt_q, spToInt_A, spToInt_pre, spToInt_post, spIn_q, spIn_A, spIn_pre, spIn_post, spFst_q, spFst_A, spFst_pre, spFst_post, spPlc_q, spPlc_A, spPlc_pre, spPlc_post, hlt, hk, hlt0, hk0] | simp (config := { maxSteps := 1000000 }) only [go_sem, ↓ifP_true, ↓ifP_false, ↓ifP_not, Nat.reduceLT, Nat.reduceAdd, Nat.reduceBEq, Nat.reduceSub, Nat.reduceLeDiff, Nat.reduceEqDiff, Nat.reduceMul, Int.reduceToNat, Int.reduceEq, Int.reduceLT, Int.reduceLE, Int.reduceAdd, Int.reduceSub, Int.reduceMul, reduceCtorEq, cond_true, cond_false, forall_eq', forall_eq, forall_const, implies_true, if_true, if_false, exists_eq_left', exists_eq', exists_eq, ne_eq, Try.f91, tb91_112, tb91_55, tb91_116, tb91_115, spCrs_q, spCrs_A, spCrs_pre, spCrs_post, spToInt_q, spToInt_A, spToInt_pre, spToInt_post, spIn_q, spIn_A, spIn_pre, spIn_post, spFst_q, spFst_A, spFst_pre, spFst_post, spPlc_q, spPlc_A, spPlc_pre, spPlc_post, hlt, hk])) | (have hlt2 := of_eq_false hlt; (first | simp (config := { maxSteps := 1000000 }) only [go_sem, ↓ifP_true, ↓ifP_false, ↓ifP_not, Nat.reduceLT, Nat.reduceAdd, Nat.reduceBEq, Nat.reduceSub, Nat.reduceLeDiff, Nat.reduceEqDiff, Nat.reduceMul, Int.reduceToNat, Int.reduceEq, Int.reduceLT, Int.reduceLE, Int.reduceAdd, Int.reduceSub, Int.reduceMul, reduceCtorEq, cond_true, cond_false, forall_eq', forall_eq, forall_const, implies_true, if_true, if_false, exists_eq_left', exists_eq', exists_eq, ne_eq, Try.f91, tb91_112, tb91_55, tb91_116, tb91_115, spCrs_q, spCrs_A, spCrs_pre, spCrs_post, spToInt_q, spToInt_A, spToInt_pre, spToInt_post, spIn_q, spIn_A, spIn_pre, spIn_post, spFst_q, spFst_A, spFst_pre, spFst_post, spPlc_q, spPlc_A, spPlc_pre, spPlc_post, hlt, hlt0, hk0] | simp (config := { maxSteps := 1000000 }) only [go_sem, ↓ifP_true, ↓ifP_false, ↓ifP_not, Nat.reduceLT, Nat.reduceAdd, Nat.reduceBEq, Nat.reduceSub, Nat.reduceLeDiff, Nat.reduceEqDiff, Nat.reduceMul, Int.reduceToNat, Int.reduceEq, Int.reduceLT, Int.reduceLE, Int.reduceAdd, Int.reduceSub, Int.reduceMul, reduceCtorEq, cond_true, cond_false, forall_eq', forall_eq, forall_const, implies_true, if_true, if_false, exists_eq_left', exists_eq', exists_eq, ne_eq, Try.f91, tb91_112, tb91_55, tb91_116, tb91_115, spCrs_q, spCrs_A, spCrs_pre, spCrs_post, spToInt_q, spToInt_A, spToInt_pre, spToInt_post, spIn_q, spIn_A, spIn_pre, spIn_post, spFst_q, spFst_A, spFst_pre, spFst_post, spPlc_q, spPlc_A, spPlc_pre, spPlc_post, hlt])))
    all_goals
    repeat' (first | apply And.intro | (intro _) | omega | assumption | with_reducible rfl)
    all_goals try (refine drawI (VE.Plan.first 0 (VE.Plan.first 1 (VE.Plan.first 2 (VE.Plan.first 3 (VE.Plan.first 5 (VE.Plan.first 6 (VE.Plan.first 7 (VE.Plan.first 8 (VE.Plan.first 9 (VE.Plan.first 11 (VE.Plan.first 12 (VE.Plan.first 13 (VE.Plan.first 14 (VE.Plan.first 15 (VE.Plan.alt 4 (VE.Plan.alt 10 (VE.Plan.alt 16 (VE.Plan.first 17 (VE.Plan.first 18 (VE.Plan.alt 19 (VE.Plan.alt 20 VE.Plan.nil VE.Plan.nil) VE.Plan.nil))) VE.Plan.nil) VE.Plan.nil) VE.Plan.nil))))))))))))))) (by decide +kernel) ?_; (first | simp (config := { maxSteps := 1000000 }) only [go_sem, ↓ifP_true, ↓ifP_false, ↓ifP_not, Nat.reduceLT, Nat.reduceAdd, Nat.reduceBEq, Nat.reduceSub, Nat.reduceLeDiff, Nat.reduceEqDiff, Nat.reduceMul, Int.reduceToNat, Int.reduceEq, Int.reduceLT, Int.reduceLE, Int.reduceAdd, Int.reduceSub, Int.reduceMul, reduceCtorEq, cond_true, cond_false, forall_eq', forall_eq, forall_const, implies_true, if_true, if_false, exists_eq_left', exists_eq', exists_eq, ne_eq, planW, stepW, Try.f91, tb91_112, tb91_55, tb91_116, tb91_115, spCrs_q, spCrs_A, spCrs_pre, spCrs_post, spToInt_q, spToInt_A, spToInt_pre, spToInt_post, spIn_q, spIn_A, spIn_pre, spIn_post, spFst_q, spFst_A, spFst_pre, spFst_post, spPlc_q, spPlc_A, spPlc_pre, spPlc_post, hlt, hk, hlt0, hk0] | simp (config := { maxSteps := 1000000 }) only [go_sem, ↓ifP_true, ↓ifP_false, ↓ifP_not, Nat.reduceLT, Nat.reduceAdd, Nat.reduceBEq, Nat.reduceSub, Nat.reduceLeDiff, Nat.reduceEqDiff, Nat.reduceMul, Int.reduceToNat, Int.reduceEq, Int.reduceLT, Int.reduceLE, Int.reduceAdd, Int.reduceSub, Int.reduceMul, reduceCtorEq, cond_true, cond_false, forall_eq', forall_eq, forall_const, implies_true, if_true, if_false, exists_eq_left', exists_eq', exists_eq, ne_eq, planW, stepW, Try.f91, tb91_112, tb91_55, tb91_116, tb91_115, spCrs_q, spCrs_A, spCrs_pre, spCrs_post, spToInt_q, spToInt_A, spToInt_pre, spToInt_post, spIn_q, spIn_A, spIn_pre, spIn_post, spFst_q, spFst_A, spFst_pre, spFst_post, spPlc_q, spPlc_A, spPlc_pre, spPlc_post, hlt, hk] | simp (config := { maxSteps := 1000000 }) only [go_sem, ↓ifP_true, ↓ifP_false, ↓ifP_not, Nat.reduceLT, Nat.reduceAdd, Nat.reduceBEq, Nat.reduceSub, Nat.reduceLeDiff, Nat.reduceEqDiff, Nat.reduceMul, Int.reduceToNat, Int.reduceEq, Int.reduceLT, Int.reduceLE, Int.reduceAdd, Int.reduceSub, Int.reduceMul, reduceCtorEq, cond_true, cond_false, forall_eq', forall_eq, forall_const, implies_true, if_true, if_false, exists_eq_left', exists_eq', exists_eq, ne_eq, planW, stepW, Try.f91, tb91_112, tb91_55, tb91_116, tb91_115, spCrs_q, spCrs_A, spCrs_pre, spCrs_post, spToInt_q, spToInt_A, spToInt_pre, spToInt_post, spIn_q, spIn_A, spIn_pre, spIn_post, spFst_q, spFst_A, spFst_pre, spFst_post, spPlc_q, spPlc_A, spPlc_pre, spPlc_post]); repeat' (first | apply And.intro | (intro _) | omega | assumption | with_reducible rfl))
  all_goals (first | (exact (tmod_lt (by omega) (by omega)).1; done) | (exact (tmod_lt (by omega) (by omega)).2; done) | (exact hinv.2.2; done) | (exact ok_at hpre.1 hk0 ‹_›; done) | ((obtain ⟨a1, a2, a3, a4⟩ := hp; obtain ⟨b1, b2, b3, b4⟩ := ok_at hpre.1 hk0 ‹r[((k + 1).tmod ↑r.length).toNat]? = some _›; omega); done) | ((have h9 := @ins_len o; omega); done) | ((rw [ins_len]; omega); done) | ((rw [← List.length_cons, ← List.length_append, ins_len]; omega); done) | ((simp only [List.length_take, List.length_drop]; omega); done) | ((apply hinv.2.2.ins <;> omega); done) | ((refine hinv.2.2.ins ?_ ?_ ?_ ?_ <;> dsimp only <;> (repeat (split <;> try omega)) <;> omega); done) | ((rw [takeN hk0 (by omega), total_snoc]; omega); done) | (exact ⟨_, rfl, rfl, by have h1 := total_take L i.toNat; have h2 := vRings_len hpre.1; omega, hinv.2.2⟩; done))
theorem sat_spec_crossings : Sat Try.prog rt0 91 (wkIn spCrs) := sat_in (sat_out sat_spec_crossings_0)
end Go.Proofs.Ytjjmjidchehffaa
end
section
set_option maxRecDepth 100000
set_option linter.unusedSimpArgs false
set_option linter.unusedVariables false
namespace Go.Proofs.Ytjjmjidchehffaa
open Go Go.VE
def spSpans_A : (List Cross) × Int → List AV
  | (l, rl) => [.c (.sl false (l.map crC)), I rl]
def spSpans_pre : (List Cross) × Int → Prop
  | (l, rl) => l.length ≤ 200 ∧ okX l
def spSpans_post : (List Cross) × Int → AV → List Box → Prop
  | (l, rl), r, bs => ∃ q : List Span, r = .c (.own 0 q.length false) ∧ bs = [⟨q.map spC, 2, 28, true, false⟩] ∧ q.length ≤ 201
def spSpans : VE.Spec := famSpec spSpans_A d_lcr_i spSpans_pre spSpans_post 0 true
theorem spSpans_q : spSpans.flat = true ∧ spSpans.mt = [] ∧ spSpans.shut = false ∧ spSpans.cost = 0 ∧ (∀ a i, spSpans.pre a i = (i = [] ∧ famPre d_lcr_i spSpans_A spSpans_pre a)) ∧ ∀ a i r b, spSpans.post a i r b = (famPost d_lcr_i spSpans_post a r b) := ⟨rfl, rfl, rfl, rfl, fun _ _ => rfl, fun _ _ _ _ => rfl⟩
def tb90 : Nat → Option VE.Spec := tabOf [(75, wkIn spIns)]
theorem tb90_75 : tb90 75 = some (wkIn spIns) := rfl
theorem tb90_ok : TabOK Try.prog rt0 tb90 := (tabOf_cons (by kernel_rfl) sat_spec_inside tabOf_nil)
set_option maxHeartbeats 4000000 in
theorem sat_spec_spans_0 : Sat Try.prog rt0 90 (wkOut spSpans) := by
  refine fn_sat hm ttok (tab := tb90) tb90_ok Try.func90 (c := Try.f90.body.getD .skip) (by kernel_rfl) (ts := [.tmp 4]) (by kernel_rfl) Try.ntmps90 (sq := fun _ => true) (by kernel_rfl) ?_
  intro args ins pk hpre0 hpk
  obtain ⟨rfl, hpre0⟩ := hpre0
  obtain ⟨⟨l, rl⟩, rfl, hpre, hdec⟩ := famPre_ex hpre0
  clear hpre0 hdec
  try simp only [spSpans_pre] at hpre
  replace hpk : pk + 0 ≤ pickLimit := hpk
  refine ⟨Nat.le_of_ble_eq_true rfl, ?_⟩
  simp (config := { maxSteps := 1000000 }) only [go_sem, ↓ifP_true, ↓ifP_false, ↓ifP_not, Nat.reduceLT, Nat.reduceAdd, Nat.reduceBEq, Nat.reduceSub, Nat.reduceLeDiff, Nat.reduceEqDiff, Nat.reduceMul, Int.reduceToNat, Int.reduceEq, Int.reduceLT, Int.reduceLE, Int.reduceAdd, Int.reduceSub, Int.reduceMul, reduceCtorEq, cond_true, cond_false, forall_eq', forall_eq, forall_const, implies_true, if_true, if_false, exists_eq_left', exists_eq', exists_eq, ne_eq, Try.f90, tb90_75, spSpans_q, spSpans_A, spSpans_pre, spSpans_post, spIns_q, spIns_A, spIns_pre, spIns_post]
  repeat' (first | apply And.intro | (intro _) | omega | assumption | with_reducible rfl)
  refine loopS (α := (List Span) × Int × Int × Int) false [2, 3, 5, 6, 7, 8, 9, 10, 11, 12, 13, 14, 15, 16, 17, 18, 19, 20, 21, 22, 23, 24, 25, 26, 27, 28, 29, 30, 31, 32, 33, 34, 35, 36, 37, 38, 39, 40, 41, 42, 43, 44, 45, 46, 47, 48, 49, 50, 51, 52, 53, 54, 55, 56, 57, 58, 59, 60, 61, 62, 63, 64, 65, 66, 67, 68, 69, 70, 71, 72, 73, 74, 75, 76, 77, 78, 79, 80, 81, 82, 83, 84, 85, 86, 87, 88, 90] (fun σ => [gId (σ.get 5)]) (fun σ x => [(5, .c (.own (gId (σ.get 5)) (x.1).length false)), (6, I x.2.1), (7, I x.2.2.1), (8, I x.2.2.2)]) (fun σ x => [(gId (σ.get 5), some ⟨(x.1).map spC, 2, 28, true, false⟩)]) (fun (o, n, f, i) => 0) (fun σ => (gL spCd σ (σ.get 5), gI (σ.get 6), gI (σ.get 7), gI (σ.get 8))) (fun σ τ => [(gId (σ.get 5), gId (τ.get 5))]) (fun (o, n, f, i) => (0 ≤ i ∧ i ≤ l.length) ∧ o.length ≤ i.toNat ∧ -i ≤ n ∧ n ≤ i) (fun (o, n, f, i) => (l.length - i).toNat) ⟨by (simp (config := { maxSteps := 1000000 }) only [go_sem, ↓ifP_true, ↓ifP_false, ↓ifP_not, Nat.reduceLT, Nat.reduceAdd, Nat.reduceBEq, Nat.reduceSub, Nat.reduceLeDiff, Nat.reduceEqDiff, Nat.reduceMul, Int.reduceToNat, Int.reduceEq, Int.reduceLT, Int.reduceLE, Int.reduceAdd, Int.reduceSub, Int.reduceMul, reduceCtorEq, cond_true, cond_false, forall_eq', forall_eq, forall_const, implies_true, if_true, if_false, exists_eq_left', exists_eq', exists_eq, ne_eq, Try.f90, tb90_75, spSpans_q, spSpans_A, spSpans_pre, spSpans_post, spIns_q, spIns_A, spIns_pre, spIns_post]; (repeat' (first | apply And.intro | (intro _) | omega | assumption | with_reducible rfl))), ?_⟩
  rintro ⟨o, n, f, i⟩ hinv
  try dsimp only at hinv
  rcases elemAt l i (by omega) with ⟨hlt, x, hk⟩ | hlt
  all_goals (first | ((have hlt2 := of_eq_true hlt); (have hX := hpre.2.all x (List.mem_of_getElem? hk)); all_goals simp (config := { maxSteps := 1000000 }) only [go_sem, ↓ifP_true, ↓ifP_false, ↓ifP_not, Nat.reduceLT, Nat.reduceAdd, Nat.reduceBEq, Nat.reduceSub, Nat.reduceLeDiff, Nat.reduceEqDiff, Nat.reduceMul, Int.reduceToNat, Int.reduceEq, Int.reduceLT, Int.reduceLE, Int.reduceAdd, Int.reduceSub, Int.reduceMul, reduceCtorEq, cond_true, cond_false, forall_eq', forall_eq, forall_const, implies_true, if_true, if_false, exists_eq_left', exists_eq', exists_eq, ne_eq, Try.f90, tb90_75, spSpans_q, spSpans_A, spSpans_pre, spSpans_post, spIns_q, spIns_A, spIns_pre, spIns_post, hlt, hk]) | (have hlt2 := of_eq_false hlt; simp (config := { maxSteps := 1000000 }) only [go_sem, ↓ifP_true, ↓ifP_false, ↓ifP_not, Nat.reduceLT, Nat.reduceAdd, Nat.reduceBEq, Nat.reduceSub, Nat.reduceLeDiff, Nat.reduceEqDiff, Nat.reduceMul, Int.reduceToNat, Int.reduceEq, Int.reduceLT, Int.reduceLE, Int.reduceAdd, Int.reduceSub, Int.reduceMul, reduceCtorEq, cond_true, cond_false, forall_eq', forall_eq, forall_const, implies_true, if_true, if_false, exists_eq_left', exists_eq', exists_eq, ne_eq, Try.f90, tb90_75, spSpans_q, spSpans_A, spSpans_pre, spSpans_post, spIns_q, spIns_A, spIns_pre, spIns_post, hlt]))
  all_goals
    repeat' (first | apply And.intro | (intro _) | omega | assumption | with_reducible rfl)
  all_goals (first | (exact okV2 ‹_›; done) | (exact ⟨o ++ [⟨f, 48⟩], by rw [List.length_append]; rfl, sp_map o f 48, by rw [List.length_append, List.length_singleton]; omega⟩; done) | (exact ⟨o, rfl, rfl, by omega⟩; done) | (omega; done))
theorem sat_spec_spans : Sat Try.prog rt0 90 (wkIn spSpans) := sat_in (sat_out sat_spec_spans_0)
end Go.Proofs.Ytjjmjidchehffaa
end
section
set_option maxRecDepth 100000
set_option linter.unusedSimpArgs false
set_option linter.unusedVariables false
namespace Go.Proofs.Ytjjmjidchehffaa
open Go Go.VE
def spSpOf_A : (List (List Pt)) × Int × Int → List AV
  | (L, rl, w) => [.c (.sl false (L.map lptC)), I rl, I w]
def spSpOf_pre : (List (List Pt)) × Int × Int → Prop
  | (L, rl, w) => L.length ≤ 1000000000 ∧ total L ≤ 1000000000
def spSpOf_post : (List (List Pt)) × Int × Int → AV → List Box → Prop
  | (L, rl, w), r, bs => ∃ q : List Span, r = .c (.own 0 q.length false) ∧ bs = [⟨q.map spC, 2, 28, true, false⟩] ∧ q.length ≤ 201
def spSpOf : VE.Spec := famSpec spSpOf_A d_llpt_i_i spSpOf_pre spSpOf_post 0 true
theorem spSpOf_q : spSpOf.flat = true ∧ spSpOf.mt = [] ∧ spSpOf.shut = false ∧ spSpOf.cost = 0 ∧ (∀ a i, spSpOf.pre a i = (i = [] ∧ famPre d_llpt_i_i spSpOf_A spSpOf_pre a)) ∧ ∀ a i r b, spSpOf.post a i r b = (famPost d_llpt_i_i spSpOf_post a r b) := ⟨rfl, rfl, rfl, rfl, fun _ _ => rfl, fun _ _ _ _ => rfl⟩
def tb50 : Nat → Option VE.Spec := tabOf [(63, wkIn spVRings), (55, wkIn spIn), (91, wkIn spCrs), (90, wkIn spSpans)]
theorem tb50_63 : tb50 63 = some (wkIn spVRings) := rfl
theorem tb50_55 : tb50 55 = some (wkIn spIn) := rfl
theorem tb50_91 : tb50 91 = some (wkIn spCrs) := rfl
theorem tb50_90 : tb50 90 = some (wkIn spSpans) := rfl
theorem tb50_ok : TabOK Try.prog rt0 tb50 := (tabOf_cons (by kernel_rfl) sat_spec_validRings (tabOf_cons (by kernel_rfl) sat_spec_inRange (tabOf_cons (by kernel_rfl) sat_spec_crossings (tabOf_cons (by kernel_rfl) sat_spec_spans tabOf_nil))))
set_option maxHeartbeats 4000000 in
theorem sat_spec_SpansOf_0 : Sat Try.prog rt0 50 (wkOut spSpOf) := by
  refine fn_sat hm ttok (tab := tb50) tb50_ok Try.func50 (c := Try.f50.body.getD .skip) (by kernel_rfl) (ts := [.tmp 6]) (by kernel_rfl) Try.ntmps50 (sq := fun _ => true) (by kernel_rfl) ?_
  intro args ins pk hpre0 hpk
  obtain ⟨rfl, hpre0⟩ := hpre0
  obtain ⟨⟨L, rl, w⟩, rfl, hpre, hdec⟩ := famPre_ex hpre0
  clear hpre0 hdec
  try simp only [spSpOf_pre] at hpre
  replace hpk : pk + 0 ≤ pickLimit := hpk
  refine ⟨Nat.le_of_ble_eq_true rfl, ?_⟩
  simp (config := { maxSteps := 1000000 }) only [go_sem, ↓ifP_true, ↓ifP_false, ↓ifP_not, Nat.reduceLT, Nat.reduceAdd, Nat.reduceBEq, Nat.reduceSub, Nat.reduceLeDiff, Nat.reduceEqDiff, Nat.reduceMul, Int.reduceToNat, Int.reduceEq, Int.reduceLT, Int.reduceLE, Int.reduceAdd, Int.reduceSub, Int.reduceMul, reduceCtorEq, cond_true, cond_false, forall_eq', forall_eq, forall_const, implies_true, if_true, if_false, exists_eq_left', exists_eq', exists_eq, ne_eq, Try.f50, tb50_63, tb50_55, tb50_91, tb50_90, spSpOf_q, spSpOf_A, spSpOf_pre, spSpOf_post, spVRings_q, spVRings_A, spVRings_pre, spVRings_post, spIn_q, spIn_A, spIn_pre, spIn_post, spCrs_q, spCrs_A, spCrs_pre, spCrs_post, spSpans_q, spSpans_A, spSpans_pre, spSpans_post]
  repeat' (first | apply And.intro | (intro _) | omega | assumption | with_reducible rfl)
  all_goals (first | (exact ⟨[], rfl, rfl, by decide⟩; done) | (exact ⟨_, rfl, rfl, ‹_›⟩; done) | (omega; done))
theorem sat_spec_SpansOf : Sat Try.prog rt0 50 (wkIn spSpOf) := sat_in (sat_out sat_spec_SpansOf_0)
end Go.Proofs.Ytjjmjidchehffaa
end
section
set_option maxRecDepth 100000
set_option linter.unusedSimpArgs false
set_option linter.unusedVariables false
namespace Go.Proofs.Ytjjmjidchehffaa
open Go Go.VE
def spDSO_A : (List UInt8) → List AV
  | code => [.c (.sl false (byC code))]
def spDSO_pre : (List UInt8) → Prop
  | code => code.length ≤ 1048576
def spDSO_post : (List UInt8) → AV → List Box → Prop
  | code, r, bs => ∃ L rl w, r = .tup [.c (.sl false (L.map lptC)), I rl, I w] ∧ bs = [] ∧ (L.length ≤ 9 ∧ total L ≤ 210 ∧ okLL L)
def spDSO : VE.Spec := famSpecS spDSO_A d_ly spDSO_pre spDSO_post 190 false
theorem spDSO_q : spDSO.flat = false ∧ spDSO.mt = [] ∧ spDSO.shut = true ∧ spDSO.cost = 190 ∧ (∀ a i, spDSO.pre a i = (i = [] ∧ famPre d_ly spDSO_A spDSO_pre a)) ∧ ∀ a i r b, spDSO.post a i r b = (famPost d_ly spDSO_post a r b) := ⟨rfl, rfl, rfl, rfl, fun _ _ => rfl, fun _ _ _ _ => rfl⟩
def tb49 : Nat → Option VE.Spec := tabOf [(48, wkIn spNew), (56, wkIn spARings), (69, wkIn spRule), (89, wkIn spRow)]
theorem tb49_48 : tb49 48 = some (wkIn spNew) := rfl
theorem tb49_56 : tb49 56 = some (wkIn spARings) := rfl
theorem tb49_69 : tb49 69 = some (wkIn spRule) := rfl
theorem tb49_89 : tb49 89 = some (wkIn spRow) := rfl
theorem tb49_ok : TabOK Try.prog rt0 tb49 := (tabOf_cons (by kernel_rfl) sat_spec_newReader (tabOf_cons (by kernel_rfl) sat_spec_anyRings (tabOf_cons (by kernel_rfl) sat_spec_anyRule (tabOf_cons (by kernel_rfl) sat_spec_anyRow tabOf_nil))))
set_option maxHeartbeats 4000000 in
theorem sat_spec_DrawSpansOf_0 : Sat Try.prog rt0 49 (wkOut spDSO) := by
  refine fn_sat hm ttok (tab := tb49) tb49_ok Try.func49 (c := Try.f49.body.getD .skip) (by kernel_rfl) (ts := [.tmp 2, .tmp 3, .tmp 4]) (by kernel_rfl) Try.ntmps49 (sq := fun _ => true) (by kernel_rfl) ?_
  intro args ins pk hpre0 hpk
  obtain ⟨rfl, hpre0⟩ := hpre0
  obtain ⟨code, rfl, hpre, hdec⟩ := famPre_ex hpre0
  clear hpre0 hdec
  try simp only [spDSO_pre] at hpre
  replace hpk : pk + 190 ≤ pickLimit := hpk
  refine ⟨Nat.le_of_ble_eq_true rfl, ?_⟩
  simp (config := { maxSteps := 1000000 }) only [go_sem, ↓ifP_true, ↓ifP_false, ↓ifP_not, Nat.reduceLT, Nat.reduceAdd, Nat.reduceBEq, Nat.reduceSub, Nat.reduceLeDiff, Nat.reduceEqDiff, Nat.reduceMul, Int.reduceToNat, Int.reduceEq, Int.reduceLT, Int.reduceLE, Int.reduceAdd, Int.reduceSub, Int.reduceMul, reduceCtorEq, cond_true, cond_false, forall_eq', forall_eq, forall_const, implies_true, if_true, if_false, exists_eq_left', exists_eq', exists_eq, ne_eq, Try.f49, tb49_48, tb49_56, tb49_69, tb49_89, spDSO_q, spDSO_A, spDSO_pre, spDSO_post, spNew_q, spARings_q, spARings_A, spARings_pre, spARings_post, spRule_q, spRule_A, spRule_pre, spRule_post, spRow_q, spRow_A, spRow_pre, spRow_post]
  repeat' (first | apply And.intro | (intro _) | omega | assumption | with_reducible rfl)
  all_goals (first | (exact ⟨_, _, rfl, rfl, hpre⟩; done) | (exact ⟨_, _, _, rfl, rfl, rfl, by assumption, by assumption, by assumption⟩; done))
theorem sat_spec_DrawSpansOf : Sat Try.prog rt0 49 (wkIn spDSO) := sat_in (sat_out sat_spec_DrawSpansOf_0)
def spDSC_A : (List UInt8) → List AV
  | code => [.c (.sl false (byC code))]
def spDSC_pre : (List UInt8) → Prop
  | code => code.length ≤ 1048576
def spDSC_post : (List UInt8) → AV → List Box → Prop
  | code, r, bs => ∃ (q : List Span) (c : Int), r = .tup [.c (.sl false (q.map spC)), I c] ∧ bs = [] ∧ q.length ≤ 300
def spDSC : VE.Spec := famSpecS spDSC_A d_ly spDSC_pre spDSC_post 500 false
theorem spDSC_q : spDSC.flat = false ∧ spDSC.mt = [] ∧ spDSC.shut = true ∧ spDSC.cost = 500 ∧ (∀ a i, spDSC.pre a i = (i = [] ∧ famPre d_ly spDSC_A spDSC_pre a)) ∧ ∀ a i r b, spDSC.post a i r b = (famPost d_ly spDSC_post a r b) := ⟨rfl, rfl, rfl, rfl, fun _ _ => rfl, fun _ _ _ _ => rfl⟩
def tb15 : Nat → Option VE.Spec := tabOf [(48, wkIn spNew), (49, wkIn spDSO), (50, wkIn spSpOf), (51, wkIn spPick), (52, wkIn spOne), (53, wkIn spPlace)]
theorem tb15_48 : tb15 48 = some (wkIn spNew) := rfl
theorem tb15_49 : tb15 49 = some (wkIn spDSO) := rfl
theorem tb15_50 : tb15 50 = some (wkIn spSpOf) := rfl
theorem tb15_51 : tb15 51 = some (wkIn spPick) := rfl
theorem tb15_52 : tb15 52 = some (wkIn spOne) := rfl
theorem tb15_53 : tb15 53 = some (wkIn spPlace) := rfl
theorem tb15_ok : TabOK Try.prog rt0 tb15 := (tabOf_cons (by kernel_rfl) sat_spec_newReader (tabOf_cons (by kernel_rfl) sat_spec_DrawSpansOf (tabOf_cons (by kernel_rfl) sat_spec_SpansOf (tabOf_cons (by kernel_rfl) sat_spec_reader_pick (tabOf_cons (by kernel_rfl) sat_spec_reader_one (tabOf_cons (by kernel_rfl) sat_spec_anyPlace tabOf_nil))))))
set_option maxHeartbeats 4000000 in
theorem sat_spec_DrawSpanCover_0 : Sat Try.prog rt0 15 (wkOut spDSC) := by
  refine fn_sat hm ttok (tab := tb15) tb15_ok Try.func15 (c := Try.f15.body.getD .skip) (by kernel_rfl) (ts := [.tmp 2, .tmp 3]) (by kernel_rfl) Try.ntmps15 (sq := fun _ => true) (by kernel_rfl) ?_
  intro args ins pk hpre0 hpk
  obtain ⟨rfl, hpre0⟩ := hpre0
  obtain ⟨code, rfl, hpre, hdec⟩ := famPre_ex hpre0
  clear hpre0 hdec
  try simp only [spDSC_pre] at hpre
  replace hpk : pk + 500 ≤ pickLimit := hpk
  refine ⟨Nat.le_of_ble_eq_true rfl, ?_⟩
  simp (config := { maxSteps := 1000000 }) only [go_sem, ↓ifP_true, ↓ifP_false, ↓ifP_not, Nat.reduceLT, Nat.reduceAdd, Nat.reduceBEq, Nat.reduceSub, Nat.reduceLeDiff, Nat.reduceEqDiff, Nat.reduceMul, Int.reduceToNat, Int.reduceEq, Int.reduceLT, Int.reduceLE, Int.reduceAdd, Int.reduceSub, Int.reduceMul, reduceCtorEq, cond_true, cond_false, forall_eq', forall_eq, forall_const, implies_true, if_true, if_false, exists_eq_left', exists_eq', exists_eq, ne_eq, Try.f15, tb15_48, tb15_49, tb15_50, tb15_51, tb15_52, tb15_53, spDSC_q, spDSC_A, spDSC_pre, spDSC_post, spNew_q, spDSO_q, spDSO_A, spDSO_pre, spDSO_post, spSpOf_q, spSpOf_A, spSpOf_pre, spSpOf_post, spPick_q, spPick_A, spPick_pre, spPick_post, spOne_q, spOne_A, spOne_pre, spOne_post, spPlace_q, spPlace_A, spPlace_pre, spPlace_post, Picks]
  repeat' (first | apply And.intro | (intro _) | omega | assumption | with_reducible rfl)
  any_goals
    refine loopS (α := (List Span)) true [0, 1, 5, 6, 7, 8, 9, 10, 11, 12, 13, 14, 15, 16, 17, 18, 19, 20, 21, 22, 23, 24, 25, 26, 27, 28, 29, 30, 31, 32, 33, 34, 35, 36, 37, 38, 39, 40, 41, 42, 43, 44, 45, 46] (fun σ => [gId (σ.get 8)]) (fun σ x => [(8, .c (.own (gId (σ.get 8)) (x).length false))]) (fun σ x => [(gId (σ.get 8), some ⟨(x).map spC, 2, 28, true, false⟩)]) (fun o => o.length) (fun σ => gL spCd σ (σ.get 8)) (fun σ τ => [(gId (σ.get 8), gId (τ.get 8))]) (fun o => o.length ≤ 250) (fun o => 250 - o.length) ⟨by (simp (config := { maxSteps := 1000000 }) only [go_sem, ↓ifP_true, ↓ifP_false, ↓ifP_not, Nat.reduceLT, Nat.reduceAdd, Nat.reduceBEq, Nat.reduceSub, Nat.reduceLeDiff, Nat.reduceEqDiff, Nat.reduceMul, Int.reduceToNat, Int.reduceEq, Int.reduceLT, Int.reduceLE, Int.reduceAdd, Int.reduceSub, Int.reduceMul, reduceCtorEq, cond_true, cond_false, forall_eq', forall_eq, forall_const, implies_true, if_true, if_false, exists_eq_left', exists_eq', exists_eq, ne_eq, Try.f15, tb15_48, tb15_49, tb15_50, tb15_51, tb15_52, tb15_53, spDSC_q, spDSC_A, spDSC_pre, spDSC_post, spNew_q, spDSO_q, spDSO_A, spDSO_pre, spDSO_post, spSpOf_q, spSpOf_A, spSpOf_pre, spSpOf_post, spPick_q, spPick_A, spPick_pre, spPick_post, spOne_q, spOne_A, spOne_pre, spOne_post, spPlace_q, spPlace_A, spPlace_pre, spPlace_post, Picks]; (repeat' (first | apply And.intro | (intro _) | omega | assumption | with_reducible rfl))), ?_⟩
    rintro o hinv
    try dsimp only at hinv
    simp (config := { maxSteps := 1000000 }) only [go_sem, ↓ifP_true, ↓ifP_false, ↓ifP_not, Nat.reduceLT, Nat.reduceAdd, Nat.reduceBEq, Nat.reduceSub, Nat.reduceLeDiff, Nat.reduceEqDiff, Nat.reduceMul, Int.reduceToNat, Int.reduceEq, Int.reduceLT, Int.reduceLE, Int.reduceAdd, Int.reduceSub, Int.reduceMul, reduceCtorEq, cond_true, cond_false, forall_eq', forall_eq, forall_const, implies_true, if_true, if_false, exists_eq_left', exists_eq', exists_eq, ne_eq, Try.f15, tb15_48, tb15_49, tb15_50, tb15_51, tb15_52, tb15_53, spDSC_q, spDSC_A, spDSC_pre, spDSC_post, spNew_q, spDSO_q, spDSO_A, spDSO_pre, spDSO_post, spSpOf_q, spSpOf_A, spSpOf_pre, spSpOf_post, spPick_q, spPick_A, spPick_pre, spPick_post, spOne_q, spOne_A, spOne_pre, spOne_post, spPlace_q, spPlace_A, spPlace_pre, spPlace_post, Picks]
    repeat' (first | apply And.intro | (intro _) | omega | assumption | with_reducible rfl)
  
  all_goals (first | (exact ⟨_, _, rfl, rfl, hpre⟩; done) | (exact hpre; done) | (exact ⟨_, _, rfl, rfl, by omega⟩; done) | ((rw [List.length_append]; simp only [List.length_singleton]; omega); done) | (omega; done) | (exact okV2 ‹_›; done) | (exact ⟨‹List Span› ++ [⟨_, _⟩], _, sp_map _ _ _, rfl, by rw [List.length_append, List.length_singleton]; omega⟩; done))
theorem sat_spec_DrawSpanCover : Sat Try.prog rt0 15 (wkIn spDSC) := sat_in (sat_out sat_spec_DrawSpanCover_0)
end Go.Proofs.Ytjjmjidchehffaa
end
