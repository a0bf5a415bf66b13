/- Contracts of functions of the program vectorraster, each proved for all states that fit its description. No conditions. -/
import Derived.Test.YtdkfamajaopgoaaPJ
import Derived.Test.YtdkfamajaopgoaaPF
import Derived.Test.YtdkfamajaopgoaaPE
import Derived.Test.YtdkfamajaopgoaaPA
import Derived.Test.YtdkfamajaopgoaaPC
import Derived.Test.YtdkfamajaopgoaaPH
set_option linter.unusedSimpArgs false
set_option linter.unusedVariables false
section
set_option maxRecDepth 100000
set_option linter.unusedSimpArgs false
set_option linter.unusedVariables false
namespace Go.Proofs.Ytdkfamajaopgoaa
open Go Go.VE
def d_cr_cr : List AV → Option (Cross × Cross)
  | [.agg a0, .agg a1] => match crCd a0, crCd a1 with
    | some a0v, some a1v => some (a0v, a1v)
    | _, _ => none
  | _ => none
def d_lcr_cr : List AV → Option ((List Cross) × Cross)
  | [.c (.sl _ a0), .agg a1] => match decAll crCd a0, crCd a1 with
    | some a0v, some a1v => some (a0v, a1v)
    | _, _ => none
  | _ => none
def d_pt_pt_i : List AV → Option (Pt × Pt × Int)
  | [.agg a0, .agg a1, .c (.v (.int .i64 a2))] => match ptCd a0, ptCd a1 with
    | some a0v, some a1v => some (a0v, a1v, a2)
    | _, _ => none
  | _ => none
def d_lsp_i : List AV → Option ((List Span) × Int)
  | [.c (.sl _ a0), .c (.v (.int .i64 a1))] => match decAll spCd a0 with
    | some a0v => some (a0v, a1)
    | _ => none
  | _ => none
def d_llpt_i : List AV → Option ((List (List Pt)) × Int)
  | [.c (.sl _ a0), .c (.v (.int .i64 a1))] => match decAll lptCd a0 with
    | some a0v => some (a0v, a1)
    | _ => none
  | _ => none
def d_lcr_i : List AV → Option ((List Cross) × Int)
  | [.c (.sl _ a0), .c (.v (.int .i64 a1))] => match decAll crCd a0 with
    | some a0v => some (a0v, a1)
    | _ => none
  | _ => none
attribute [go_sem] d_cr_cr d_lcr_cr d_pt_pt_i d_lsp_i d_llpt_i d_lcr_i
end Go.Proofs.Ytdkfamajaopgoaa
end
section
set_option maxRecDepth 100000
set_option linter.unusedSimpArgs false
set_option linter.unusedVariables false
namespace Go.Proofs.Ytdkfamajaopgoaa
open Go Go.VE
def bf (a b : Cross) : Bool := decide (a.a < b.a ∨ a.a = b.a ∧ a.s < b.s)
def okS (p : Span) : Bool := decide (0 ≤ p.f ∧ p.f ≤ p.t ∧ p.t ≤ 48)
def ovl (p : Span) (c : Int) : Int := max 0 (min p.t (4 * c + 4) - max p.f (4 * c))
def ovls (l : List Span) (c : Int) : Int := (l.map fun p => ovl p c).sum
def spanN (l : List Span) (c : Int) : Int := if (decide (l.length ≤ 40) && decide (0 ≤ c ∧ c ≤ 11) && l.all okS) = true then ovls l c else -1
theorem cr_set (o : List Cross) (n : Nat) (a b : Int) : (List.map crC o).set n [.v (.int .i64 a), .v (.int .i64 b)] = List.map crC (o.set n ⟨a, b⟩) := by rw [List.map_set]; rfl
theorem set_oth {α : Type} {o : List α} {n m : Nat} {p : α} (h : o[m]? = some p) (hn : n ≠ m) (q : α) : (o.set n q)[m]? = some p := by
  rw [List.getElem?_set_ne hn]; exact h
theorem ovl_bd {p : Span} (h : okS p = true) (c : Int) : 0 ≤ ovl p c ∧ ovl p c ≤ 4 := by
  simp only [okS, decide_eq_true_eq] at h
  unfold ovl; omega
theorem ovls_bd {l : List Span} (c : Int) (h : l.all okS = true) : 0 ≤ ovls l c ∧ ovls l c ≤ 4 * l.length := by
  induction l with
  | nil => simp [ovls]
  | cons p l ih =>
    simp only [List.all_cons, Bool.and_eq_true] at h
    have h1 := ih h.2
    have h2 := ovl_bd h.1 c
    simp only [ovls, List.map_cons, List.sum_cons, List.length_cons] at *
    omega
theorem ovls_snoc (l : List Span) (p : Span) (c : Int) : ovls (l ++ [p]) c = ovls l c + ovl p c := by simp [ovls]
def spBf_A : Cross × Cross → List AV
  | (a, b) => [.agg (crC a), .agg (crC b)]
def spBf_pre : Cross × Cross → Prop
  | (a, b) => True
def spBf_post : Cross × Cross → AV → List Box → Prop
  | (a, b), r, bs => r = B (bf a b) ∧ bs = []
def spBf : VE.Spec := famSpec spBf_A d_cr_cr spBf_pre spBf_post 0 true
theorem spBf_q : spBf.flat = true ∧ spBf.mt = [] ∧ spBf.shut = false ∧ spBf.cost = 0 ∧ (∀ a i, spBf.pre a i = (i = [] ∧ famPre d_cr_cr spBf_A spBf_pre a)) ∧ ∀ a i r b, spBf.post a i r b = (famPost d_cr_cr spBf_post a r b) := ⟨rfl, rfl, rfl, rfl, fun _ _ => rfl, fun _ _ _ _ => rfl⟩
def spPlc_A : (List Cross) × Cross → List AV
  | (l, c) => [.c (.sl false (l.map crC)), .agg (crC c)]
def spPlc_pre : (List Cross) × Cross → Prop
  | (l, c) => l.length ≤ 1000000
def spPlc_post : (List Cross) × Cross → AV → List Box → Prop
  | (l, c), r, bs => ∃ k : Nat, k ≤ l.length ∧ r = .c (.own 0 (l.length + 1) false) ∧ bs = [⟨(l.take k ++ c :: l.drop k).map crC, 2, 999, true, false⟩]
def spPlc : VE.Spec := famSpec spPlc_A d_lcr_cr spPlc_pre spPlc_post 0 true
theorem spPlc_q : spPlc.flat = true ∧ spPlc.mt = [] ∧ spPlc.shut = false ∧ spPlc.cost = 0 ∧ (∀ a i, spPlc.pre a i = (i = [] ∧ famPre d_lcr_cr spPlc_A spPlc_pre a)) ∧ ∀ a i r b, spPlc.post a i r b = (famPost d_lcr_cr spPlc_post a r b) := ⟨rfl, rfl, rfl, rfl, fun _ _ => rfl, fun _ _ _ _ => rfl⟩
def spFst_A : Pt × Pt × Int → List AV
  | (a, b, y) => [.agg (ptC a), .agg (ptC b), I y]
def spFst_pre : Pt × Pt × Int → Prop
  | (a, b, y) => okP a ∧ okP b ∧ -3000 ≤ y ∧ y ≤ 3000
def spFst_post : Pt × Pt × Int → AV → List Box → Prop
  | (a, b, y), r, bs => ∃ n, r = I n ∧ bs = [] ∧ 0 ≤ n ∧ n ≤ 48
def spFst : VE.Spec := famSpec spFst_A d_pt_pt_i spFst_pre spFst_post 0 true
theorem spFst_q : spFst.flat = true ∧ spFst.mt = [] ∧ spFst.shut = false ∧ spFst.cost = 0 ∧ (∀ a i, spFst.pre a i = (i = [] ∧ famPre d_pt_pt_i spFst_A spFst_pre a)) ∧ ∀ a i r b, spFst.post a i r b = (famPost d_pt_pt_i spFst_post a r b) := ⟨rfl, rfl, rfl, rfl, fun _ _ => rfl, fun _ _ _ _ => rfl⟩
def spSpanC_A : (List Span) × Int → List AV
  | (l, c) => [.c (.sl false (l.map spC)), I c]
def spSpanC_pre : (List Span) × Int → Prop
  | (l, c) => l.length ≤ 1000000000
def spSpanC_post : (List Span) × Int → AV → List Box → Prop
  | (l, c), r, bs => r = I (spanN l c) ∧ bs = []
def spSpanC : VE.Spec := famSpec spSpanC_A d_lsp_i spSpanC_pre spSpanC_post 0 true
theorem spSpanC_q : spSpanC.flat = true ∧ spSpanC.mt = [] ∧ spSpanC.shut = false ∧ spSpanC.cost = 0 ∧ (∀ a i, spSpanC.pre a i = (i = [] ∧ famPre d_lsp_i spSpanC_A spSpanC_pre a)) ∧ ∀ a i r b, spSpanC.post a i r b = (famPost d_lsp_i spSpanC_post a r b) := ⟨rfl, rfl, rfl, rfl, fun _ _ => rfl, fun _ _ _ _ => rfl⟩
end Go.Proofs.Ytdkfamajaopgoaa
end
section
set_option maxRecDepth 100000
set_option linter.unusedSimpArgs false
set_option linter.unusedVariables false
namespace Go.Proofs.Ytdkfamajaopgoaa
open Go Go.VE
end Go.Proofs.Ytdkfamajaopgoaa
end
section
set_option maxRecDepth 100000
set_option linter.unusedSimpArgs false
set_option linter.unusedVariables false
namespace Go.Proofs.Ytdkfamajaopgoaa
open Go Go.VE
theorem cr_set2 (o : List Cross) (n : Nat) (x : Cross) : (List.map crC o).set n (crC x) = List.map crC (o.set n x) := by rw [List.map_set]
theorem set_same' {α : Type} {o : List α} {n : Nat} {p : α} (h : o[n]? = some p) (q : α) : (o.set n q)[n]? = some q := by
  rw [List.getElem?_set_self (List.getElem?_eq_some_iff.1 h).1]
theorem ins_l (l : List Cross) (c : Cross) (k : Nat) : (l.take k ++ c :: l.drop k).length = l.length + 1 := by
  simp only [List.length_append, List.length_take, List.length_cons, List.length_drop]; omega
theorem ins_c {l o : List Cross} {c x : Cross} {k : Nat} (ho : o = l.take k ++ c :: l.drop k) (hk : k ≤ l.length) (hx : o[k]? = some x) : x = c := by
  rw [ho, List.getElem?_append_right (by simp; omega)] at hx
  simp only [List.length_take, show k - min k l.length = 0 by omega, List.getElem?_cons_zero, Option.some.injEq] at hx
  exact hx.symm
theorem ins_b {l o : List Cross} {c : Cross} {k : Int} (ho : o = l.take k.toNat ++ c :: l.drop k.toNat) (hk : k ≤ l.length) (h0 : 0 < k) : ∃ y, l[(k - 1).toNat]? = some y ∧ o[(k - 1).toNat]? = some y := by
  have hl : (k - 1).toNat < l.length := by omega
  refine ⟨l[(k - 1).toNat], List.getElem?_eq_getElem hl, ?_⟩
  rw [ho, List.getElem?_append_left (by simp; omega), List.getElem?_take_of_lt (by omega)]
  exact List.getElem?_eq_getElem hl
theorem set_mid : ∀ (A D : List Cross) (y c : Cross), ((A ++ y :: c :: D).set (A.length + 1) y).set A.length c = A ++ c :: y :: D
  | [], D, y, c => rfl
  | a :: A, D, y, c => by
    have := set_mid A D y c
    simp only [List.cons_append, List.length_cons, List.set_cons_succ] at *
    rw [this]
theorem ins_sw {l o : List Cross} {c y : Cross} {k : Int} (ho : o = l.take k.toNat ++ c :: l.drop k.toNat) (hk : k ≤ l.length) (h0 : 0 < k) (hy : l[(k - 1).toNat]? = some y) : (o.set k.toNat y).set (k - 1).toNat c = l.take (k - 1).toNat ++ c :: l.drop (k - 1).toNat := by
  have e1 : l.take k.toNat = l.take (k - 1).toNat ++ [y] := by
    have := takeN hy (by omega)
    rwa [show k - 1 + 1 = k by omega] at this
  have e2 : l.drop (k - 1).toNat = y :: l.drop k.toNat := by
    have := dropN hy (by omega)
    rwa [show k - 1 + 1 = k by omega] at this
  rw [ho, e1, e2, List.append_assoc, List.singleton_append]
  have hl : (l.take (k - 1).toNat).length = (k - 1).toNat := by simp; omega
  have := set_mid (l.take (k - 1).toNat) (l.drop k.toNat) y c
  rwa [hl, show (k - 1).toNat + 1 = k.toNat by omega] at this
theorem ins_all {l o : List Cross} {c : Cross} {k : Int} (ho : o = l.take k.toNat ++ c :: l.drop k.toNat) (hk : k ≤ l.length) :
    (0 < k ∧ ∃ y, l[(k - 1).toNat]? = some y ∧ o[(k - 1).toNat]? = some y ∧ (∀ q, (o.set k.toNat q)[(k - 1).toNat]? = some y) ∧ (o.set k.toNat y).set (k - 1).toNat c = l.take (k - 1).toNat ++ c :: l.drop (k - 1).toNat) ∨ k ≤ 0 := by
  rcases Int.lt_or_le 0 k with h0 | h0
  · obtain ⟨y, hy, hy2⟩ := ins_b ho hk h0
    exact .inl ⟨h0, y, hy, hy2, fun q => set_oth hy2 (by omega) q, ins_sw ho hk h0 hy⟩
  · exact .inr h0
end Go.Proofs.Ytdkfamajaopgoaa
end
section
set_option maxRecDepth 100000
set_option linter.unusedSimpArgs false
set_option linter.unusedVariables false
namespace Go.Proofs.Ytdkfamajaopgoaa
open Go Go.VE
theorem span_bad {l : List Span} {i : Int} {p : Span} {c : Int} (hk : l[i.toNat]? = some p) (h : okS p = false) : -1 = spanN l c := by
  rw [spanN, all_bad hk h]; simp
theorem span_end {l : List Span} {i n c : Int} (h : ¬ i < (l.length : Int)) (hi : (l.take i.toNat).all okS = true ∧ n = ovls (l.take i.toNat) c) (hl : ¬ 40 < (l.length : Int)) (h0 : 0 ≤ c) (h1 : c ≤ 11) : n = spanN l c := by
  rw [takeA (by omega)] at hi
  rw [spanN, hi.1, decide_eq_true (by omega), decide_eq_true (by omega)]
  exact hi.2
theorem span_len {l : List Span} {c : Int} (h : 40 < (l.length : Int)) : -1 = spanN l c := by
  rw [spanN, decide_eq_false (by omega)]; rfl
theorem span_col {l : List Span} {c : Int} (h : ¬ (0 ≤ c ∧ c ≤ 11)) : -1 = spanN l c := by
  rw [spanN, decide_eq_false h]; simp
theorem ovl_eq (p : Span) (c : Int) : max 0 (min p.t ((c + 1) * 4) - max p.f (c * 4)) = ovl p c := by unfold ovl; omega
theorem ovl_eq2 (p : Span) (c : Int) : max 0 (min p.t (4 * (c + 1)) - max p.f (4 * c)) = ovl p c := by unfold ovl; omega
end Go.Proofs.Ytdkfamajaopgoaa
end
section
set_option maxRecDepth 100000
set_option linter.unusedSimpArgs false
set_option linter.unusedVariables false
namespace Go.Proofs.Ytdkfamajaopgoaa
open Go Go.VE
structure okX (l : List Cross) : Prop where
  all : ∀ c ∈ l, (0 ≤ c.a ∧ c.a ≤ 48) ∧ -1 ≤ c.s ∧ c.s ≤ 1
theorem okX.nil : okX [] := ⟨by intro c h; cases h⟩
theorem okX.ins {l : List Cross} {c : Cross} {k : Nat} (h : okX l) (h0 : 0 ≤ c.a) (h1 : c.a ≤ 48) (h2 : -1 ≤ c.s) (h3 : c.s ≤ 1) : okX (l.take k ++ c :: l.drop k) := ⟨fun x hx => by
  simp only [List.mem_append, List.mem_cons] at hx
  rcases hx with hx | rfl | hx
  · exact h.all x (List.mem_of_mem_take hx)
  · exact ⟨⟨h0, h1⟩, h2, h3⟩
  · exact h.all x (List.mem_of_mem_drop hx)⟩
theorem okV2 {c : C} {a b : Value} (h : c ∈ [C.v a, C.v b]) : okV c = true := by
  simp only [List.mem_cons, List.not_mem_nil, or_false] at h
  rcases h with rfl | rfl <;> rfl
theorem sp_map (o : List Span) (f t : Int) : o.map spC ++ [[.v (.int .i64 f), .v (.int .i64 t)]] = (o ++ [(⟨f, t⟩ : Span)]).map spC := by rw [List.map_append]; rfl
theorem ins_len {l : List Cross} {c : Cross} {k : Nat} : (l.take k ++ c :: l.drop k).length = l.length + 1 := by
  simp only [List.length_append, List.length_take, List.length_cons, List.length_drop]; omega
def spCrs_A : (List (List Pt)) × Int → List AV
  | (L, y) => [.c (.sl false (L.map lptC)), I y]
def spCrs_pre : (List (List Pt)) × Int → Prop
  | (L, y) => vRings L = true ∧ -3000 ≤ y ∧ y ≤ 3000
def spCrs_post : (List (List Pt)) × Int → AV → List Box → Prop
  | (L, y), r, bs => ∃ l : List Cross, r = .c (.own 0 l.length false) ∧ bs = [⟨l.map crC, 2, 999, true, false⟩] ∧ l.length ≤ 200 ∧ okX l
def spCrs : VE.Spec := famSpec spCrs_A d_llpt_i spCrs_pre spCrs_post 0 true
theorem spCrs_q : spCrs.flat = true ∧ spCrs.mt = [] ∧ spCrs.shut = false ∧ spCrs.cost = 0 ∧ (∀ a i, spCrs.pre a i = (i = [] ∧ famPre d_llpt_i spCrs_A spCrs_pre a)) ∧ ∀ a i r b, spCrs.post a i r b = (famPost d_llpt_i spCrs_post a r b) := ⟨rfl, rfl, rfl, rfl, fun _ _ => rfl, fun _ _ _ _ => rfl⟩
end Go.Proofs.Ytdkfamajaopgoaa
end
section
set_option maxRecDepth 100000
set_option linter.unusedSimpArgs false
set_option linter.unusedVariables false
namespace Go.Proofs.Ytdkfamajaopgoaa
open Go Go.VE
def spSpans_A : (List Cross) × Int → List AV
  | (l, rl) => [.c (.sl false (l.map crC)), I rl]
def spSpans_pre : (List Cross) × Int → Prop
  | (l, rl) => l.length ≤ 200 ∧ okX l
def spSpans_post : (List Cross) × Int → AV → List Box → Prop
  | (l, rl), r, bs => ∃ q : List Span, r = .c (.own 0 q.length false) ∧ bs = [⟨q.map spC, 2, 999, true, false⟩] ∧ q.length ≤ 201
def spSpans : VE.Spec := famSpec spSpans_A d_lcr_i spSpans_pre spSpans_post 0 true
theorem spSpans_q : spSpans.flat = true ∧ spSpans.mt = [] ∧ spSpans.shut = false ∧ spSpans.cost = 0 ∧ (∀ a i, spSpans.pre a i = (i = [] ∧ famPre d_lcr_i spSpans_A spSpans_pre a)) ∧ ∀ a i r b, spSpans.post a i r b = (famPost d_lcr_i spSpans_post a r b) := ⟨rfl, rfl, rfl, rfl, fun _ _ => rfl, fun _ _ _ _ => rfl⟩
end Go.Proofs.Ytdkfamajaopgoaa
end
section
set_option maxRecDepth 100000
set_option linter.unusedSimpArgs false
set_option linter.unusedVariables false
namespace Go.Proofs.Ytdkfamajaopgoaa
open Go Go.VE
def spSpOf_A : (List (List Pt)) × Int × Int → List AV
  | (L, rl, w) => [.c (.sl false (L.map lptC)), I rl, I w]
def spSpOf_pre : (List (List Pt)) × Int × Int → Prop
  | (L, rl, w) => L.length ≤ 1000000000 ∧ total L ≤ 1000000000
def spSpOf_post : (List (List Pt)) × Int × Int → AV → List Box → Prop
  | (L, rl, w), r, bs => ∃ q : List Span, r = .c (.own 0 q.length false) ∧ bs = [⟨q.map spC, 2, 999, true, false⟩] ∧ q.length ≤ 201
def spSpOf : VE.Spec := famSpec spSpOf_A d_llpt_i_i spSpOf_pre spSpOf_post 0 true
theorem spSpOf_q : spSpOf.flat = true ∧ spSpOf.mt = [] ∧ spSpOf.shut = false ∧ spSpOf.cost = 0 ∧ (∀ a i, spSpOf.pre a i = (i = [] ∧ famPre d_llpt_i_i spSpOf_A spSpOf_pre a)) ∧ ∀ a i r b, spSpOf.post a i r b = (famPost d_llpt_i_i spSpOf_post a r b) := ⟨rfl, rfl, rfl, rfl, fun _ _ => rfl, fun _ _ _ _ => rfl⟩
end Go.Proofs.Ytdkfamajaopgoaa
end
section
set_option maxRecDepth 100000
set_option linter.unusedSimpArgs false
set_option linter.unusedVariables false
namespace Go.Proofs.Ytdkfamajaopgoaa
open Go Go.VE
def spDSO_A : (List UInt8) → List AV
  | code => [.c (.sl false (byC code))]
def spDSO_pre : (List UInt8) → Prop
  | code => code.length ≤ 1048576
def spDSO_post : (List UInt8) → AV → List Box → Prop
  | code, r, bs => ∃ L rl w, r = .tup [.c (.sl false (L.map lptC)), I rl, I w] ∧ bs = [] ∧ (L.length ≤ 9 ∧ total L ≤ 210 ∧ okLL L)
def spDSO : VE.Spec := famSpecS spDSO_A d_ly spDSO_pre spDSO_post 190 false
theorem spDSO_q : spDSO.flat = false ∧ spDSO.mt = [] ∧ spDSO.shut = true ∧ spDSO.cost = 190 ∧ (∀ a i, spDSO.pre a i = (i = [] ∧ famPre d_ly spDSO_A spDSO_pre a)) ∧ ∀ a i r b, spDSO.post a i r b = (famPost d_ly spDSO_post a r b) := ⟨rfl, rfl, rfl, rfl, fun _ _ => rfl, fun _ _ _ _ => rfl⟩
def spDSC_A : (List UInt8) → List AV
  | code => [.c (.sl false (byC code))]
def spDSC_pre : (List UInt8) → Prop
  | code => code.length ≤ 1048576
def spDSC_post : (List UInt8) → AV → List Box → Prop
  | code, r, bs => ∃ (q : List Span) (c : Int), r = .tup [.c (.sl false (q.map spC)), I c] ∧ bs = [] ∧ q.length ≤ 300
def spDSC : VE.Spec := famSpecS spDSC_A d_ly spDSC_pre spDSC_post 500 false
theorem spDSC_q : spDSC.flat = false ∧ spDSC.mt = [] ∧ spDSC.shut = true ∧ spDSC.cost = 500 ∧ (∀ a i, spDSC.pre a i = (i = [] ∧ famPre d_ly spDSC_A spDSC_pre a)) ∧ ∀ a i r b, spDSC.post a i r b = (famPost d_ly spDSC_post a r b) := ⟨rfl, rfl, rfl, rfl, fun _ _ => rfl, fun _ _ _ _ => rfl⟩
end Go.Proofs.Ytdkfamajaopgoaa
end
