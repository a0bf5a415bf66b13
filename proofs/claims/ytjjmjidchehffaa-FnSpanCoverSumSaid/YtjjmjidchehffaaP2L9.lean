/- Contracts of functions of the program vectorraster, each proved for all states that fit its description. No conditions. -/
import Derived.Test.YtjjmjidchehffaaPK
import Derived.Test.YtjjmjidchehffaaPG
import Derived.Test.YtjjmjidchehffaaPH
set_option maxRecDepth 100000
set_option linter.unusedSimpArgs false
set_option linter.unusedVariables false
namespace Go.Proofs.Ytjjmjidchehffaa
open Go Go.VE
theorem span_pos {q : List Span} {c : Int} (h : ¬ spanN q c < 0) : q.length ≤ 40 ∧ q.all okS = true ∧ 0 ≤ c ∧ c ≤ 11 := by
  unfold spanN at h
  split at h
  · rename_i hh
    simp only [Bool.and_eq_true, decide_eq_true_eq] at hh
    exact ⟨hh.1.1, hh.2, hh.1.2⟩
  · omega
theorem span_col2 {q : List Span} {c : Int} (h : spanN q c < 0 ∨ ¬ spanN q c < 0) (hc : ¬ c < 0) (h2 : ¬ 12 ≤ c) : 0 ≤ c ∧ c ≤ 11 := by omega
theorem span_full {c : Int} (h0 : 0 ≤ c) (h1 : c ≤ 11) : spanN [⟨0, 48⟩] c = 4 := by
  have e : okS ⟨0, 48⟩ = true := rfl
  simp only [spanN, List.all_cons, e, List.all_nil, Bool.and_true, List.length_singleton, Nat.reduceLeDiff, decide_true, Bool.true_and, decide_eq_true_eq, ovls, List.map_cons, List.map_nil, List.sum_cons, List.sum_nil, ovl]
  rw [if_pos ⟨h0, h1⟩]; omega
theorem span_none {c : Int} (h0 : 0 ≤ c) (h1 : c ≤ 11) : spanN [] c = 0 := by
  simp only [spanN, List.all_nil, Bool.and_true, List.length_nil, Nat.zero_le, decide_true, Bool.true_and, decide_eq_true_eq, ovls, List.map_nil, List.sum_nil]
  rw [if_pos ⟨h0, h1⟩]
theorem span_val {q : List Span} {c : Int} (hl : q.length ≤ 40) (ha : q.all okS = true) (h0 : 0 ≤ c) (h1 : c ≤ 11) : spanN q c = ovls q c := by
  rw [spanN, ha, decide_eq_true hl, decide_eq_true ⟨h0, h1⟩]; rfl
def lenS (q : List Span) : Int := (q.map fun p => p.t - p.f).sum
theorem lenS_snoc (q : List Span) (p : Span) : lenS (q ++ [p]) = lenS q + (p.t - p.f) := by simp [lenS]
theorem lenS_bd {q : List Span} (h : q.all okS = true) : 0 ≤ lenS q ∧ lenS q ≤ 48 * q.length := by
  induction q with
  | nil => simp [lenS]
  | cons p q ih =>
    simp only [List.all_cons, Bool.and_eq_true] at h
    have h1 := ih h.2
    have h2 := h.1
    simp only [okS, decide_eq_true_eq] at h2
    simp only [lenS, List.map_cons, List.sum_cons, List.length_cons] at *
    omega
theorem ovl_sum {p : Span} (h : okS p = true) : ∀ n : Nat, sumN (fun j => ovl p j) n = min p.t (4 * n) - min p.f (4 * n)
  | 0 => by simp only [okS, decide_eq_true_eq] at h; simp [sumN]; omega
  | n + 1 => by
    have ih := ovl_sum h n
    simp only [okS, decide_eq_true_eq] at h
    rw [sumN, ih, ovl]; omega
theorem sumN_add (f g : Nat → Int) : ∀ n, sumN (fun j => f j + g j) n = sumN f n + sumN g n
  | 0 => rfl
  | n + 1 => by simp only [sumN, sumN_add f g n]; omega
theorem ovls_sum : ∀ {q : List Span}, q.all okS = true → sumN (fun j => ovls q j) 12 = lenS q
  | [], _ => rfl
  | p :: q, h => by
    simp only [List.all_cons, Bool.and_eq_true] at h
    have e : (fun j : Nat => ovls (p :: q) j) = fun j : Nat => ovl p j + ovls q j := rfl
    rw [e, sumN_add, ovls_sum h.2, ovl_sum h.1]
    have h2 := h.1
    simp only [okS, decide_eq_true_eq] at h2
    simp only [lenS, List.map_cons, List.sum_cons]
    omega
theorem sums_bd {q : List Span} (hl : q.length ≤ 40) (ha : q.all okS = true) : ∀ n : Nat, 0 ≤ sumN (fun j => ovls q j) n ∧ sumN (fun j => ovls q j) n ≤ 160 * n := sumN_bd (fun j => by have := ovls_bd (l := q) (j : Int) ha; omega)
theorem all_take {q : List Span} {n : Nat} (h : q.all okS = true) : (q.take n).all okS = true := by
  rw [List.all_eq_true] at *
  exact fun p hp => h p (List.mem_of_mem_take hp)
theorem okS_at {q : List Span} {i : Int} {p : Span} (h : q.all okS = true) (hk : q[i.toNat]? = some p) : 0 ≤ p.f ∧ p.f ≤ p.t ∧ p.t ≤ 48 := by
  have := List.all_eq_true.1 h p (List.mem_of_getElem? hk)
  simpa [okS] using this
def tb3 : Nat → Option VE.Spec := tabOf [(15, wkIn spDSC), (16, wkIn spSpanC), (17, wkIn spSpanC)]
theorem tb3_15 : tb3 15 = some (wkIn spDSC) := rfl
theorem tb3_16 : tb3 16 = some (wkIn spSpanC) := rfl
theorem tb3_17 : tb3 17 = some (wkIn spSpanC) := rfl
theorem tb3_ok : TabOK Try.prog rt0 tb3 := (tabOf_cons (by kernel_rfl) sat_spec_DrawSpanCover (tabOf_cons (by kernel_rfl) sat_impl_SpanCover (tabOf_cons (by kernel_rfl) sat_spec_SpanCover tabOf_nil)))
set_option maxHeartbeats 4000000 in
theorem sat_laws_FnSpanCoverFull_0 : Sat Try.prog rt0 3 spLaw := by
  refine fn_sat hm ttok (tab := tb3) tb3_ok Try.func3 (c := Try.f3.body.getD .skip) (by kernel_rfl) (ts := [.tmp 2]) (by kernel_rfl) Try.ntmps3 (sq := fun _ => true) (by kernel_rfl) ?_
  intro args ins pk hpre0 hpk
  obtain ⟨rfl, hpre0⟩ := hpre0
  obtain ⟨code, rfl, hpre, hdec⟩ := famPre_ex hpre0
  clear hpre0 hdec
  try simp only [spLaw_pre] at hpre
  replace hpk : pk + 100000 ≤ pickLimit := hpk
  refine ⟨Nat.le_of_ble_eq_true rfl, ?_⟩
  simp (config := { maxSteps := 1000000 }) only [go_sem, ↓ifP_true, ↓ifP_false, ↓ifP_not, Nat.reduceLT, Nat.reduceAdd, Nat.reduceBEq, Nat.reduceSub, Nat.reduceLeDiff, Nat.reduceEqDiff, Nat.reduceMul, Int.reduceToNat, Int.reduceEq, Int.reduceLT, Int.reduceLE, Int.reduceAdd, Int.reduceSub, Int.reduceMul, reduceCtorEq, cond_true, cond_false, forall_eq', forall_eq, forall_const, implies_true, if_true, if_false, exists_eq_left', exists_eq', exists_eq, ne_eq, Try.f3, tb3_15, tb3_16, tb3_17, spLaw_q, spLaw_A, spLaw_pre, spLaw_post, spDSC_q, spDSC_A, spDSC_pre, spDSC_post, spSpanC_q, spSpanC_A, spSpanC_pre, spSpanC_post]
  repeat' (first | apply And.intro | (intro _) | omega | assumption | with_reducible rfl)
  all_goals (first | (exact span_full (by omega) (by omega); done) | (exact span_none (by omega) (by omega); done) | ((have h1 := span_full (c := ‹Int›) (by omega) (by omega); omega); done))
theorem sat_laws_FnSpanCoverFull : Sat Try.prog rt0 3 (wkIn spLaw) := sat_in sat_laws_FnSpanCoverFull_0
end Go.Proofs.Ytjjmjidchehffaa
