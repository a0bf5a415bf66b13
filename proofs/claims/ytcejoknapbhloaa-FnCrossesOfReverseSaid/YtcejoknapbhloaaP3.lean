/- Contracts of functions of the program vectorraster, each proved for all states that fit its description. No conditions. -/
import Derived.Test.YtcejoknapbhloaaPF
import Derived.Test.YtcejoknapbhloaaPE
import Derived.Test.YtcejoknapbhloaaPA
import Derived.Test.YtcejoknapbhloaaKK
set_option linter.unusedSimpArgs false
set_option linter.unusedVariables false
section
set_option maxRecDepth 100000
set_option linter.unusedSimpArgs false
set_option linter.unusedVariables false
namespace Go.Proofs.Ytcejoknapbhloaa
open Go Go.VE
def bf (a b : Cross) : Bool := decide (a.a < b.a ∨ a.a = b.a ∧ a.s < b.s)
def okS (p : Span) : Bool := decide (0 ≤ p.f ∧ p.f ≤ p.t ∧ p.t ≤ 48)
def ovl (p : Span) (c : Int) : Int := max 0 (min p.t (4 * c + 4) - max p.f (4 * c))
def ovls (l : List Span) (c : Int) : Int := (l.map fun p => ovl p c).sum
def spanN (l : List Span) (c : Int) : Int := if (decide (l.length ≤ 40) && decide (0 ≤ c ∧ c ≤ 11) && l.all okS) = true then ovls l c else -1
theorem cr_set (o : List Cross) (n : Nat) (a b : Int) : (List.map crC o).set n [.v (.int .i64 a), .v (.int .i64 b)] = List.map crC (o.set n ⟨a, b⟩) := by rw [List.map_set]; rfl
theorem set_oth {α : Type} {o : List α} {n m : Nat} {p : α} (h : o[m]? = some p) (hn : n ≠ m) (q : α) : (o.set n q)[m]? = some p := by
  rw [List.getElem?_set_ne hn]; exact h
theorem ovl_bd {p : Span} (h : okS p = true) (c : Int) : 0 ≤ ovl p c ∧ ovl p c ≤ 4 := by
  simp only [okS, decide_eq_true_eq] at h
  unfold ovl; omega
theorem ovls_bd {l : List Span} (c : Int) (h : l.all okS = true) : 0 ≤ ovls l c ∧ ovls l c ≤ 4 * l.length := by
  induction l with
  | nil => simp [ovls]
  | cons p l ih =>
    simp only [List.all_cons, Bool.and_eq_true] at h
    have h1 := ih h.2
    have h2 := ovl_bd h.1 c
    simp only [ovls, List.map_cons, List.sum_cons, List.length_cons] at *
    omega
theorem ovls_snoc (l : List Span) (p : Span) (c : Int) : ovls (l ++ [p]) c = ovls l c + ovl p c := by simp [ovls]
def spBf_A : Cross × Cross → List AV
  | (a, b) => [.agg (crC a), .agg (crC b)]
def spBf_pre : Cross × Cross → Prop
  | (a, b) => True
def spBf_post : Cross × Cross → AV → List Box → Prop
  | (a, b), r, bs => r = B (bf a b) ∧ bs = []
def spBf : VE.Spec := famSpec spBf_A d_cr_cr spBf_pre spBf_post 0 true
theorem spBf_q : spBf.flat = true ∧ spBf.mt = [] ∧ spBf.shut = false ∧ spBf.cost = 0 ∧ (∀ a i, spBf.pre a i = (i = [] ∧ famPre d_cr_cr spBf_A spBf_pre a)) ∧ ∀ a i r b, spBf.post a i r b = (famPost d_cr_cr spBf_post a r b) := ⟨rfl, rfl, rfl, rfl, fun _ _ => rfl, fun _ _ _ _ => rfl⟩
def spPlc_A : (List Cross) × Cross → List AV
  | (l, c) => [.c (.sl false (l.map crC)), .agg (crC c)]
def spPlc_pre : (List Cross) × Cross → Prop
  | (l, c) => l.length ≤ 1000000
def spPlc_post : (List Cross) × Cross → AV → List Box → Prop
  | (l, c), r, bs => ∃ k : Nat, k ≤ l.length ∧ r = .c (.own 0 (l.length + 1) false) ∧ bs = [⟨(l.take k ++ c :: l.drop k).map crC, 2, 30, true, false⟩]
def spPlc : VE.Spec := famSpec spPlc_A d_lcr_cr spPlc_pre spPlc_post 0 true
theorem spPlc_q : spPlc.flat = true ∧ spPlc.mt = [] ∧ spPlc.shut = false ∧ spPlc.cost = 0 ∧ (∀ a i, spPlc.pre a i = (i = [] ∧ famPre d_lcr_cr spPlc_A spPlc_pre a)) ∧ ∀ a i r b, spPlc.post a i r b = (famPost d_lcr_cr spPlc_post a r b) := ⟨rfl, rfl, rfl, rfl, fun _ _ => rfl, fun _ _ _ _ => rfl⟩
def spFst_A : Pt × Pt × Int → List AV
  | (a, b, y) => [.agg (ptC a), .agg (ptC b), I y]
def spFst_pre : Pt × Pt × Int → Prop
  | (a, b, y) => okP a ∧ okP b ∧ -3000 ≤ y ∧ y ≤ 3000
def spFst_post : Pt × Pt × Int → AV → List Box → Prop
  | (a, b, y), r, bs => ∃ n, r = I n ∧ bs = [] ∧ 0 ≤ n ∧ n ≤ 48
def spFst : VE.Spec := famSpec spFst_A d_pt_pt_i spFst_pre spFst_post 0 true
theorem spFst_q : spFst.flat = true ∧ spFst.mt = [] ∧ spFst.shut = false ∧ spFst.cost = 0 ∧ (∀ a i, spFst.pre a i = (i = [] ∧ famPre d_pt_pt_i spFst_A spFst_pre a)) ∧ ∀ a i r b, spFst.post a i r b = (famPost d_pt_pt_i spFst_post a r b) := ⟨rfl, rfl, rfl, rfl, fun _ _ => rfl, fun _ _ _ _ => rfl⟩
def spSpanC_A : (List Span) × Int → List AV
  | (l, c) => [.c (.sl false (l.map spC)), I c]
def spSpanC_pre : (List Span) × Int → Prop
  | (l, c) => l.length ≤ 1000000000
def spSpanC_post : (List Span) × Int → AV → List Box → Prop
  | (l, c), r, bs => r = I (spanN l c) ∧ bs = []
def spSpanC : VE.Spec := famSpec spSpanC_A d_lsp_i spSpanC_pre spSpanC_post 0 true
theorem spSpanC_q : spSpanC.flat = true ∧ spSpanC.mt = [] ∧ spSpanC.shut = false ∧ spSpanC.cost = 0 ∧ (∀ a i, spSpanC.pre a i = (i = [] ∧ famPre d_lsp_i spSpanC_A spSpanC_pre a)) ∧ ∀ a i r b, spSpanC.post a i r b = (famPost d_lsp_i spSpanC_post a r b) := ⟨rfl, rfl, rfl, rfl, fun _ _ => rfl, fun _ _ _ _ => rfl⟩
end Go.Proofs.Ytcejoknapbhloaa
end
section
set_option maxRecDepth 100000
set_option linter.unusedSimpArgs false
set_option linter.unusedVariables false
namespace Go.Proofs.Ytcejoknapbhloaa
open Go Go.VE
theorem cr_set2 (o : List Cross) (n : Nat) (x : Cross) : (List.map crC o).set n (crC x) = List.map crC (o.set n x) := by rw [List.map_set]
theorem set_same' {α : Type} {o : List α} {n : Nat} {p : α} (h : o[n]? = some p) (q : α) : (o.set n q)[n]? = some q := by
  rw [List.getElem?_set_self (List.getElem?_eq_some_iff.1 h).1]
theorem ins_l (l : List Cross) (c : Cross) (k : Nat) : (l.take k ++ c :: l.drop k).length = l.length + 1 := by
  simp only [List.length_append, List.length_take, List.length_cons, List.length_drop]; omega
theorem ins_c {l o : List Cross} {c x : Cross} {k : Nat} (ho : o = l.take k ++ c :: l.drop k) (hk : k ≤ l.length) (hx : o[k]? = some x) : x = c := by
  rw [ho, List.getElem?_append_right (by simp; omega)] at hx
  simp only [List.length_take, show k - min k l.length = 0 by omega, List.getElem?_cons_zero, Option.some.injEq] at hx
  exact hx.symm
theorem ins_b {l o : List Cross} {c : Cross} {k : Int} (ho : o = l.take k.toNat ++ c :: l.drop k.toNat) (hk : k ≤ l.length) (h0 : 0 < k) : ∃ y, l[(k - 1).toNat]? = some y ∧ o[(k - 1).toNat]? = some y := by
  have hl : (k - 1).toNat < l.length := by omega
  refine ⟨l[(k - 1).toNat], List.getElem?_eq_getElem hl, ?_⟩
  rw [ho, List.getElem?_append_left (by simp; omega), List.getElem?_take_of_lt (by omega)]
  exact List.getElem?_eq_getElem hl
theorem set_mid : ∀ (A D : List Cross) (y c : Cross), ((A ++ y :: c :: D).set (A.length + 1) y).set A.length c = A ++ c :: y :: D
  | [], D, y, c => rfl
  | a :: A, D, y, c => by
    have := set_mid A D y c
    simp only [List.cons_append, List.length_cons, List.set_cons_succ] at *
    rw [this]
theorem ins_sw {l o : List Cross} {c y : Cross} {k : Int} (ho : o = l.take k.toNat ++ c :: l.drop k.toNat) (hk : k ≤ l.length) (h0 : 0 < k) (hy : l[(k - 1).toNat]? = some y) : (o.set k.toNat y).set (k - 1).toNat c = l.take (k - 1).toNat ++ c :: l.drop (k - 1).toNat := by
  have e1 : l.take k.toNat = l.take (k - 1).toNat ++ [y] := by
    have := takeN hy (by omega)
    rwa [show k - 1 + 1 = k by omega] at this
  have e2 : l.drop (k - 1).toNat = y :: l.drop k.toNat := by
    have := dropN hy (by omega)
    rwa [show k - 1 + 1 = k by omega] at this
  rw [ho, e1, e2, List.append_assoc, List.singleton_append]
  have hl : (l.take (k - 1).toNat).length = (k - 1).toNat := by simp; omega
  have := set_mid (l.take (k - 1).toNat) (l.drop k.toNat) y c
  rwa [hl, show (k - 1).toNat + 1 = k.toNat by omega] at this
theorem ins_all {l o : List Cross} {c : Cross} {k : Int} (ho : o = l.take k.toNat ++ c :: l.drop k.toNat) (hk : k ≤ l.length) :
    (0 < k ∧ ∃ y, l[(k - 1).toNat]? = some y ∧ o[(k - 1).toNat]? = some y ∧ (∀ q, (o.set k.toNat q)[(k - 1).toNat]? = some y) ∧ (o.set k.toNat y).set (k - 1).toNat c = l.take (k - 1).toNat ++ c :: l.drop (k - 1).toNat) ∨ k ≤ 0 := by
  rcases Int.lt_or_le 0 k with h0 | h0
  · obtain ⟨y, hy, hy2⟩ := ins_b ho hk h0
    exact .inl ⟨h0, y, hy, hy2, fun q => set_oth hy2 (by omega) q, ins_sw ho hk h0 hy⟩
  · exact .inr h0
end Go.Proofs.Ytcejoknapbhloaa
end
section
set_option maxRecDepth 100000
set_option linter.unusedSimpArgs false
set_option linter.unusedVariables false
namespace Go.Proofs.Ytcejoknapbhloaa
open Go Go.VE
theorem span_bad {l : List Span} {i : Int} {p : Span} {c : Int} (hk : l[i.toNat]? = some p) (h : okS p = false) : -1 = spanN l c := by
  rw [spanN, all_bad hk h]; simp
theorem span_end {l : List Span} {i n c : Int} (h : ¬ i < (l.length : Int)) (hi : (l.take i.toNat).all okS = true ∧ n = ovls (l.take i.toNat) c) (hl : ¬ 40 < (l.length : Int)) (h0 : 0 ≤ c) (h1 : c ≤ 11) : n = spanN l c := by
  rw [takeA (by omega)] at hi
  rw [spanN, hi.1, decide_eq_true (by omega), decide_eq_true (by omega)]
  exact hi.2
theorem span_len {l : List Span} {c : Int} (h : 40 < (l.length : Int)) : -1 = spanN l c := by
  rw [spanN, decide_eq_false (by omega)]; rfl
theorem span_col {l : List Span} {c : Int} (h : ¬ (0 ≤ c ∧ c ≤ 11)) : -1 = spanN l c := by
  rw [spanN, decide_eq_false h]; simp
theorem ovl_eq (p : Span) (c : Int) : max 0 (min p.t ((c + 1) * 4) - max p.f (c * 4)) = ovl p c := by unfold ovl; omega
theorem ovl_eq2 (p : Span) (c : Int) : max 0 (min p.t (4 * (c + 1)) - max p.f (4 * c)) = ovl p c := by unfold ovl; omega
def tb20 : Nat → Option VE.Spec := tabOf [(40, wkIn spIn)]
theorem tb20_40 : tb20 40 = some (wkIn spIn) := rfl
theorem tb20_ok : TabOK Try.prog rt0 tb20 := (tabOf_cons (by kernel_rfl) sat_impl_in tabOf_nil)
set_option maxHeartbeats 4000000 in
theorem sat_impl_SpanCover_0 : Sat Try.prog rt0 20 (wkOut spSpanC) := by
  refine fn_sat hm ttok (tab := tb20) tb20_ok Try.func20 (c := Try.f20.body.getD .skip) (by kernel_rfl) (ts := [.tmp 4]) (by kernel_rfl) Try.ntmps20 (sq := fun _ => true) (by kernel_rfl) ?_
  intro args ins pk hpre0 hpk
  obtain ⟨rfl, hpre0⟩ := hpre0
  obtain ⟨⟨l, c⟩, rfl, hpre, hdec⟩ := famPre_ex hpre0
  clear hpre0 hdec
  try simp only [spSpanC_pre] at hpre
  replace hpk : pk + 0 ≤ pickLimit := hpk
  refine ⟨Nat.le_of_ble_eq_true rfl, ?_⟩
  simp (config := { maxSteps := 1000000 }) only [go_sem, ↓ifP_true, ↓ifP_false, ↓ifP_not, Nat.reduceLT, Nat.reduceAdd, Nat.reduceBEq, Nat.reduceSub, Nat.reduceLeDiff, Nat.reduceEqDiff, Nat.reduceMul, Int.reduceToNat, Int.reduceEq, Int.reduceLT, Int.reduceLE, Int.reduceAdd, Int.reduceSub, Int.reduceMul, reduceCtorEq, cond_true, cond_false, forall_eq', forall_eq, forall_const, implies_true, if_true, if_false, exists_eq_left', exists_eq', exists_eq, ne_eq, Try.f20, tb20_40, spSpanC_q, spSpanC_A, spSpanC_pre, spSpanC_post, spIn_q, spIn_A, spIn_pre, spIn_post]
  repeat' (first | apply And.intro | (intro _) | omega | assumption | with_reducible rfl)
  any_goals
    refine loopS (α := Int × Int) false [0, 2, 3, 4, 5, 6, 7, 8, 9, 10, 11, 12, 13, 14, 15, 18, 19, 20, 21, 22, 23, 24, 25, 26, 27, 28, 29, 30, 31, 32, 33, 34, 35, 36, 37, 38, 39, 40, 41, 42, 43, 44, 45, 46, 47, 48, 49, 50, 51, 52] (fun σ => []) (fun σ x => [(5, I x.1), (18, I x.2)]) (fun σ x => []) (fun (n, i) => 0) (fun σ => (gI (σ.get 5), gI (σ.get 18))) (fun σ τ => []) (fun (n, i) => 0 ≤ i ∧ i ≤ l.length ∧ (l.take i.toNat).all okS = true ∧ n = ovls (l.take i.toNat) c) (fun (n, i) => (l.length - i).toNat) ⟨by (simp (config := { maxSteps := 1000000 }) only [go_sem, ↓ifP_true, ↓ifP_false, ↓ifP_not, Nat.reduceLT, Nat.reduceAdd, Nat.reduceBEq, Nat.reduceSub, Nat.reduceLeDiff, Nat.reduceEqDiff, Nat.reduceMul, Int.reduceToNat, Int.reduceEq, Int.reduceLT, Int.reduceLE, Int.reduceAdd, Int.reduceSub, Int.reduceMul, reduceCtorEq, cond_true, cond_false, forall_eq', forall_eq, forall_const, implies_true, if_true, if_false, exists_eq_left', exists_eq', exists_eq, ne_eq, Try.f20, tb20_40, spSpanC_q, spSpanC_A, spSpanC_pre, spSpanC_post, spIn_q, spIn_A, spIn_pre, spIn_post]; (repeat' (first | apply And.intro | (intro _) | omega | assumption | with_reducible rfl)); all_goals (first | rfl)), ?_⟩
    rintro ⟨n, i⟩ hinv
    try dsimp only at hinv
    rcases elemAt l i (by omega) with ⟨hlt, p, hk⟩ | hlt
    all_goals (first | ((have hlt2 := of_eq_true hlt); all_goals simp (config := { maxSteps := 1000000 }) only [go_sem, ↓ifP_true, ↓ifP_false, ↓ifP_not, Nat.reduceLT, Nat.reduceAdd, Nat.reduceBEq, Nat.reduceSub, Nat.reduceLeDiff, Nat.reduceEqDiff, Nat.reduceMul, Int.reduceToNat, Int.reduceEq, Int.reduceLT, Int.reduceLE, Int.reduceAdd, Int.reduceSub, Int.reduceMul, reduceCtorEq, cond_true, cond_false, forall_eq', forall_eq, forall_const, implies_true, if_true, if_false, exists_eq_left', exists_eq', exists_eq, ne_eq, Try.f20, tb20_40, spSpanC_q, spSpanC_A, spSpanC_pre, spSpanC_post, spIn_q, spIn_A, spIn_pre, spIn_post, hlt, hk]) | (have hlt2 := of_eq_false hlt; simp (config := { maxSteps := 1000000 }) only [go_sem, ↓ifP_true, ↓ifP_false, ↓ifP_not, Nat.reduceLT, Nat.reduceAdd, Nat.reduceBEq, Nat.reduceSub, Nat.reduceLeDiff, Nat.reduceEqDiff, Nat.reduceMul, Int.reduceToNat, Int.reduceEq, Int.reduceLT, Int.reduceLE, Int.reduceAdd, Int.reduceSub, Int.reduceMul, reduceCtorEq, cond_true, cond_false, forall_eq', forall_eq, forall_const, implies_true, if_true, if_false, exists_eq_left', exists_eq', exists_eq, ne_eq, Try.f20, tb20_40, spSpanC_q, spSpanC_A, spSpanC_pre, spSpanC_post, spIn_q, spIn_A, spIn_pre, spIn_post, hlt]))
    all_goals
      repeat' (first | apply And.intro | (intro _) | omega | assumption | with_reducible rfl)
  
  all_goals (first | (exact span_len ‹_›; done) | (exact span_col (by omega); done) | (exact span_bad hk (by simp only [okS, decide_eq_false_iff_not]; omega); done) | ((have h9 := ovls_bd c hinv.2.2.1; have h8 := ovl_bd (p := p) (by simp only [okS, decide_eq_true_eq]; omega) c; rw [List.length_take] at h9; simp only [ovl_eq, ovl_eq2]; omega); done) | ((rw [takeN hk hinv.1, List.all_append, hinv.2.2.1]; simp only [List.all_cons, List.all_nil, Bool.and_true, Bool.true_and]; simp only [okS, decide_eq_true_eq]; omega); done) | ((rw [takeN hk hinv.1, ovls_snoc, hinv.2.2.2]; simp only [ovl_eq, ovl_eq2]); done) | (exact span_end hlt2 hinv.2.2 ‹_› ‹_› ‹_›; done))
theorem sat_impl_SpanCover : Sat Try.prog rt0 20 (wkIn spSpanC) := sat_in (sat_out sat_impl_SpanCover_0)
end Go.Proofs.Ytcejoknapbhloaa
end
