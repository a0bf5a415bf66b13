/- Contracts of functions of the program vectorraster, each proved for all states that fit its description. No conditions. -/
import Derived.Test.YthphndhiacikaaaDoorT2Z5
import Derived.Test.YthphndhiacikaaaDoorPC
set_option maxRecDepth 100000
set_option linter.unusedSimpArgs false
set_option linter.unusedVariables false
namespace Go.Proofs.YthphndhiacikaaaDoor
open Go Go.VE
/-! The reference's reading, step by step. -/
def pS (w : List ByteArray) (i : Int) : List Verb := parseS ((w.take i.toNat).map tx)
theorem pS_zero (w : List ByteArray) : pS w 0 = [] := rfl
theorem pS_step {w : List ByteArray} {i : Int} {x : ByteArray} (h : w[i.toNat]? = some x) (h0 : 0 ≤ i) : pS w (i + 1) = stepS (pS w i) (tx x) := by
  unfold pS parseS
  rw [takeN h h0, List.map_append, List.foldl_append]
  rfl
theorem pS_end {w : List ByteArray} {i : Int} (h : (w.length : Int) ≤ i) : pS w i = parseS (w.map tx) := by
  unfold pS; rw [takeA h]
/-- Here a verb begins, or the words end. -/
def vbnd (w : List ByteArray) (i : Int) : Prop := i = 0 ∨ (w.length : Int) ≤ i ∨ ∃ x, w[i.toNat]? = some x ∧ 0 ≤ kindW (tx x)
theorem vbnd.zero (w : List ByteArray) : vbnd w 0 := .inl rfl
theorem vbnd.fin {w : List ByteArray} {i : Int} (h : ¬ i < (w.length : Int)) : vbnd w i := .inr (.inl (by omega))
theorem vbnd.letter {w : List ByteArray} {i : Int} {x : ByteArray} (h : w[i.toNat]? = some x) (hk : 0 ≤ kindW (tx x)) : vbnd w i := .inr (.inr ⟨x, h, hk⟩)
theorem vbnd.step {w : List ByteArray} {i : Int} {x : ByteArray} (hb : vbnd w i) (h : w[i.toNat]? = some x) (h0 : 0 ≤ i) {o : List Verb} (ho : o = pS w i) : pS w (i + 1) = o ++ [⟨kindW (tx x), []⟩] := by
  rw [pS_step h h0, ← ho]
  unfold stepS
  rw [if_pos]
  rcases hb with rfl | hb | ⟨y, hy, hk⟩
  · exact .inr (by rw [ho]; rfl)
  · have := (List.getElem?_eq_some_iff.1 h).1
    omega
  · exact .inl (by rw [Option.some.inj (h.symm.trans hy)]; exact hk)
theorem pS_point {w : List ByteArray} {j : Int} {y : ByteArray} {o : List Verb} {k : Int} {q : List Pt} (h : w[j.toNat]? = some y) (h0 : 0 ≤ j) (hk : kindW (tx y) < 0) (hi : pS w j = o ++ [⟨k, q⟩]) {p : Pt} (hp : ptOf (tx y) = p) : pS w (j + 1) = o ++ [⟨k, q ++ [p]⟩] := by
  rw [pS_step h h0, hi]
  unfold stepS
  rw [if_neg (by rintro (h | h); · omega
                 · simp at h), addPt_snoc, hp]
theorem spl_lens (c : UInt8) : ∀ {l : List UInt8} {x : List UInt8}, x ∈ spl c l → x.length ≤ l.length
  | [], x, h => by
    simp only [spl, List.mem_singleton] at h
    subst h; simp
  | b :: l, x, h => by
    have ih := fun y => spl_lens c (l := l) (x := y)
    rw [spl] at h
    split at h
    · rcases List.mem_cons.1 h with rfl | h
      · simp
      · have := ih x h; simp only [List.length_cons]; omega
    · split at h
      · rename_i hd tl he
        rcases List.mem_cons.1 h with rfl | h
        · have := ih hd (by rw [he]; simp); simp only [List.length_cons]; omega
        · have := ih x (by rw [he]; simp [h]); simp only [List.length_cons]; omega
      · simp only [List.mem_singleton] at h; subst h; simp
theorem spl_at {c : UInt8} {w : ByteArray} {j : Nat} {a : ByteArray} (h : ((spl c (tx w)).map mkB)[j]? = some a) : a.size ≤ w.size ∧ (spl c (tx w))[j]? = some (tx a) := by
  rw [List.getElem?_map] at h
  obtain ⟨x, hx, rfl⟩ := Option.map_eq_some_iff.1 h
  refine ⟨?_, by rw [tx_mk]; exact hx⟩
  have := spl_lens c (List.mem_of_getElem? hx)
  rw [mkB_size, ← tx_len]; exact this
theorem ptOf_two {w a b : ByteArray} (h : (((spl 44 (tx w)).length : Nat) : Int) = 2) (ha : ((spl 44 (tx w)).map mkB)[0]? = some a) (hb : ((spl 44 (tx w)).map mkB)[1]? = some b) : ptOf (tx w) = ⟨numW (tx a), numW (tx b)⟩ := by
  have h1 := (spl_at ha).2
  have h2 := (spl_at hb).2
  match hs : spl 44 (tx w), h with
  | [x, y], _ =>
    rw [hs] at h1 h2
    simp only [List.getElem?_cons_zero, List.getElem?_cons_succ, Option.some.injEq] at h1 h2
    unfold ptOf
    rw [hs, h1, h2]
  | [], h => simp at h
  | [_], h => simp at h
  | _ :: _ :: _ :: _, h => simp at h; omega
theorem ptOf_bad {w : ByteArray} (h : ¬ (((spl 44 (tx w)).length : Nat) : Int) = 2) : ptOf (tx w) = ⟨1001, 0⟩ := by
  unfold ptOf
  split
  · rename_i hs
    rw [hs] at h; simp at h
  · rfl
theorem spl_ex {c : UInt8} {w : ByteArray} {j : Nat} {a : ByteArray} (h : ∃ b, (spl c (tx w))[j]? = some b ∧ mkB b = a) : ((spl c (tx w)).map mkB)[j]? = some a := by
  rw [List.getElem?_map]
  obtain ⟨b, h1, h2⟩ := h
  rw [h1, ← h2]; rfl
theorem spl_num (c : UInt8) : ∀ l : List UInt8, (spl c l).length ≤ l.length + 1
  | [] => by simp [spl]
  | b :: l => by
    have ih := spl_num c l
    rw [spl]
    split
    · simp only [List.length_cons]; omega
    · split
      · rename_i he; rw [he] at ih; simp only [List.length_cons] at *; omega
      · simp
theorem step_num (o : List Verb) (w : List UInt8) : (stepS o w).length + nPts (stepS o w) ≤ o.length + nPts o + 1 := by
  unfold stepS
  split
  · simp only [nPts, List.map_append, List.sum_append, List.length_append, List.length_singleton, List.map_cons, List.map_nil, List.sum_cons, List.sum_nil, List.length_nil]; omega
  · rename_i h
    have ho : o ≠ [] := fun e => h (.inr e)
    obtain ⟨r, v, rfl⟩ : ∃ r v, o = r ++ [v] := ⟨o.dropLast, o.getLast ho, (List.dropLast_concat_getLast ho).symm⟩
    obtain ⟨k, q⟩ := v
    rw [addPt_snoc]
    simp only [nPts, List.map_append, List.sum_append, List.length_append, List.length_singleton, List.map_cons, List.map_nil, List.sum_cons, List.sum_nil]; omega
theorem fold_num (ws : List (List UInt8)) : ∀ o : List Verb, (ws.foldl stepS o).length + nPts (ws.foldl stepS o) ≤ o.length + nPts o + ws.length := by
  induction ws with
  | nil => intro o; simp
  | cons w ws ih =>
    intro o
    have := ih (stepS o w)
    have := step_num o w
    simp only [List.foldl_cons, List.length_cons]; omega
theorem parseS_num (ws : List (List UInt8)) : (parseS ws).length ≤ ws.length ∧ nPts (parseS ws) ≤ ws.length := by
  have := fold_num ws []
  have e : nPts [] = 0 := rfl
  rw [e] at this
  simp only [List.length_nil] at this
  unfold parseS
  constructor <;> omega
theorem spl_words {x : ByteArray} (c : UInt8) : ((spl c (tx x)).map mkB).map tx = spl c (tx x) := by
  rw [List.map_map]; exact List.map_id' _
theorem spl_ok {x : ByteArray} (c : UInt8) (h : x.size ≤ 800) : (spl c (tx x)).length ≤ 801 ∧ ∀ y ∈ (spl c (tx x)).map mkB, y.size ≤ 2000 := by
  refine ⟨by have := spl_num c (tx x); rw [tx_len] at this; omega, fun y hy => ?_⟩
  obtain ⟨w, hw, rfl⟩ := List.mem_map.1 hy
  have := spl_lens c hw
  rw [tx_len] at this
  rw [mkB_size]; omega
theorem pp_long {x : ByteArray} (h : (800 : Int) < x.size) : pp (tx x) = none := by
  unfold pp; rw [if_pos (by rw [tx_len]; omega)]
theorem pp_mt {x : ByteArray} (h : x = ⟨#[]⟩) : pp (tx x) = some [] := by
  subst h; rfl
theorem tx_ne {x : ByteArray} (h : ¬ x = ⟨#[]⟩) : ¬ tx x = [] := fun e => h (tx_inj (by rw [e]; rfl))
theorem pp_bad {x : ByteArray} (h8 : ¬ (800 : Int) < x.size) (h0 : ¬ x = ⟨#[]⟩) (h : vPath (parseS (spl 32 (tx x))) = false) : pp (tx x) = none := by
  unfold pp; rw [if_neg (by rw [tx_len]; omega), if_neg (tx_ne h0), if_neg (by rw [h]; simp)]
theorem pp_diff {x : ByteArray} (h8 : ¬ (800 : Int) < x.size) (h0 : ¬ x = ⟨#[]⟩) (h : ¬ mkB (fmtL (parseS (spl 32 (tx x)))) = x) : pp (tx x) = none := by
  unfold pp; rw [if_neg (by rw [tx_len]; omega), if_neg (tx_ne h0), if_neg (fun e => h (by rw [e.2, mk_tx]))]
theorem pp_good {x : ByteArray} (h8 : ¬ (800 : Int) < x.size) (h0 : ¬ x = ⟨#[]⟩) (hv : vPath (parseS (spl 32 (tx x))) = true) (h : mkB (fmtL (parseS (spl 32 (tx x)))) = x) : pp (tx x) = some (parseS (spl 32 (tx x))) := by
  unfold pp; rw [if_neg (by rw [tx_len]; omega), if_neg (tx_ne h0), if_pos ⟨hv, by have := congrArg tx h; rw [tx_mk] at this; exact this⟩]
theorem u8_32 : UInt8.ofNat 32 = 32 := rfl
def spParse_A : (List ByteArray) → List AV
  | w => [.c (.sl false (w.map sC))]
def spParse_pre : (List ByteArray) → Prop
  | w => w.length ≤ 2000 ∧ ∀ x ∈ w, x.size ≤ 2000
def spParse_post : (List ByteArray) → AV → List Box → Prop
  | w, r, bs => r = .c (.own 0 (parseS (w.map tx)).length false) ∧ bs = [⟨(parseS (w.map tx)).map vbC, 2, 43, true, false⟩]
def spParse : VE.Spec := famSpec spParse_A d_ls spParse_pre spParse_post 0 false
theorem spParse_q : spParse.flat = false ∧ spParse.mt = [] ∧ spParse.shut = false ∧ spParse.cost = 0 ∧ (∀ a i, spParse.pre a i = (i = [] ∧ famPre d_ls spParse_A spParse_pre a)) ∧ ∀ a i r b, spParse.post a i r b = (famPost d_ls spParse_post a r b) := ⟨rfl, rfl, rfl, rfl, fun _ _ => rfl, fun _ _ _ _ => rfl⟩
def tb36 : Nat → Option VE.Spec := tabOf [(64, wkIn spKind), (37, wkIn spSplA), (65, wkIn spNum)]
theorem tb36_64 : tb36 64 = some (wkIn spKind) := rfl
theorem tb36_37 : tb36 37 = some (wkIn spSplA) := rfl
theorem tb36_65 : tb36 65 = some (wkIn spNum) := rfl
theorem tb36_ok : TabOK Tryd.prog rt0 tb36 := (tabOf_cons (by kernel_rfl) sat_spec_kindOf (tabOf_cons (by kernel_rfl) sat_spec_splitAt (tabOf_cons (by kernel_rfl) sat_spec_parseInt tabOf_nil)))
set_option maxHeartbeats 4000000 in
theorem sat_spec_parsePath_0 : Sat Tryd.prog rt0 36 (wkOut spParse) := by
  refine fn_sat hm ttok (tab := tb36) tb36_ok Tryd.func36 (c := Tryd.f36.body.getD .skip) (by kernel_rfl) (ts := [.tmp 2]) (by kernel_rfl) Tryd.ntmps36 (sq := fun id => !(id == 11)) (by kernel_rfl) ?_
  intro args ins pk hpre0 hpk
  obtain ⟨rfl, hpre0⟩ := hpre0
  obtain ⟨w, rfl, hpre, hdec⟩ := famPre_ex hpre0
  clear hpre0 hdec
  try simp only [spParse_pre] at hpre
  replace hpk : pk + 0 ≤ pickLimit := hpk
  refine ⟨Nat.le_of_ble_eq_true rfl, ?_⟩
  simp (config := { maxSteps := 1000000 }) only [go_sem, ↓ifP_true, ↓ifP_false, ↓ifP_not, Nat.reduceLT, Nat.reduceAdd, Nat.reduceBEq, Nat.reduceSub, Nat.reduceLeDiff, Nat.reduceEqDiff, Nat.reduceMul, Int.reduceToNat, Int.reduceEq, Int.reduceLT, Int.reduceLE, Int.reduceAdd, Int.reduceSub, Int.reduceMul, reduceCtorEq, cond_true, cond_false, forall_eq', forall_eq, forall_const, implies_true, if_true, if_false, exists_eq_left', exists_eq', exists_eq, ne_eq, Tryd.f36, tb36_64, tb36_37, tb36_65, spParse_q, spParse_A, spParse_pre, spParse_post, spKind_q, spKind_A, spKind_pre, spKind_post, spSplA_q, spSplA_A, spSplA_pre, spSplA_post, spNum_q, spNum_A, spNum_pre, spNum_post]
  repeat' (first | apply And.intro | (intro _) | omega | assumption | with_reducible rfl)
  all_goals try (refine drawI (VE.Plan.first 0 (VE.Plan.first 1 (VE.Plan.first 2 (VE.Plan.first 4 (VE.Plan.first 5 (VE.Plan.first 6 (VE.Plan.alt 3 (VE.Plan.alt 7 (VE.Plan.first 8 (VE.Plan.alt 9 VE.Plan.nil VE.Plan.nil)) VE.Plan.nil) VE.Plan.nil))))))) (by decide +kernel) ?_; simp (config := { maxSteps := 1000000 }) only [go_sem, ↓ifP_true, ↓ifP_false, ↓ifP_not, Nat.reduceLT, Nat.reduceAdd, Nat.reduceBEq, Nat.reduceSub, Nat.reduceLeDiff, Nat.reduceEqDiff, Nat.reduceMul, Int.reduceToNat, Int.reduceEq, Int.reduceLT, Int.reduceLE, Int.reduceAdd, Int.reduceSub, Int.reduceMul, reduceCtorEq, cond_true, cond_false, forall_eq', forall_eq, forall_const, implies_true, if_true, if_false, exists_eq_left', exists_eq', exists_eq, ne_eq, planW, stepW, Go.VE.stepT, Go.VE.clearO, Tryd.f36, tb36_64, tb36_37, tb36_65, spParse_q, spParse_A, spParse_pre, spParse_post, spKind_q, spKind_A, spKind_pre, spKind_post, spSplA_q, spSplA_A, spSplA_pre, spSplA_post, spNum_q, spNum_A, spNum_pre, spNum_post]; repeat' (first | apply And.intro | (intro _) | omega | assumption | with_reducible rfl))
  any_goals
    refine loopS (α := (List Verb) × Int) false [1, 3, 4, 5, 6, 7, 8, 9, 10, 11, 12, 13, 14, 15, 16, 17, 18, 19, 20, 21, 22, 23, 24, 25, 26, 27, 28, 29, 30, 31, 32, 33, 34, 35, 36, 37, 38, 39, 40, 41, 42, 43, 44, 45, 46, 47, 48, 49, 50, 51, 52, 53, 54, 55, 56, 57, 58, 59, 60, 61, 62, 63, 64] (fun σ => [gId (σ.get 3)]) (fun σ x => [(3, .c (.own (gId (σ.get 3)) (x.1).length false)), (4, I x.2)]) (fun σ x => [(gId (σ.get 3), some ⟨(x.1).map vbC, 2, 43, true, false⟩)]) (fun (o, i) => 0) (fun σ => (gL vbCd σ (σ.get 3), gI (σ.get 4))) (fun σ τ => [(gId (σ.get 3), gId (τ.get 3))]) (fun (o, i) => (0 ≤ i ∧ i ≤ w.length) ∧ (o.length : Int) ≤ i ∧ o = pS w i ∧ vbnd w i) (fun (o, i) => (w.length - i).toNat) ⟨by (simp (config := { maxSteps := 1000000 }) only [go_sem, ↓ifP_true, ↓ifP_false, ↓ifP_not, Nat.reduceLT, Nat.reduceAdd, Nat.reduceBEq, Nat.reduceSub, Nat.reduceLeDiff, Nat.reduceEqDiff, Nat.reduceMul, Int.reduceToNat, Int.reduceEq, Int.reduceLT, Int.reduceLE, Int.reduceAdd, Int.reduceSub, Int.reduceMul, reduceCtorEq, cond_true, cond_false, forall_eq', forall_eq, forall_const, implies_true, if_true, if_false, exists_eq_left', exists_eq', exists_eq, ne_eq, Tryd.f36, tb36_64, tb36_37, tb36_65, spParse_q, spParse_A, spParse_pre, spParse_post, spKind_q, spKind_A, spKind_pre, spKind_post, spSplA_q, spSplA_A, spSplA_pre, spSplA_post, spNum_q, spNum_A, spNum_pre, spNum_post]; (repeat' (first | apply And.intro | (intro _) | omega | assumption | with_reducible rfl)); all_goals (first | exact vbnd.zero _ | rfl | skip)), ?_⟩
    rintro ⟨o, i⟩ hinv
    try dsimp only at hinv
    rcases elemAt w i (by omega) with ⟨hlt, x, hk⟩ | hlt
    all_goals (first | ((have hlt2 := of_eq_true hlt); (have hX := hpre.2 x (List.mem_of_getElem? hk)); (have hkx := hk); all_goals simp (config := { maxSteps := 1000000 }) only [go_sem, ↓ifP_true, ↓ifP_false, ↓ifP_not, Nat.reduceLT, Nat.reduceAdd, Nat.reduceBEq, Nat.reduceSub, Nat.reduceLeDiff, Nat.reduceEqDiff, Nat.reduceMul, Int.reduceToNat, Int.reduceEq, Int.reduceLT, Int.reduceLE, Int.reduceAdd, Int.reduceSub, Int.reduceMul, reduceCtorEq, cond_true, cond_false, forall_eq', forall_eq, forall_const, implies_true, if_true, if_false, exists_eq_left', exists_eq', exists_eq, ne_eq, Tryd.f36, tb36_64, tb36_37, tb36_65, spParse_q, spParse_A, spParse_pre, spParse_post, spKind_q, spKind_A, spKind_pre, spKind_post, spSplA_q, spSplA_A, spSplA_pre, spSplA_post, spNum_q, spNum_A, spNum_pre, spNum_post, hlt, hk]) | (have hlt2 := of_eq_false hlt; simp (config := { maxSteps := 1000000 }) only [go_sem, ↓ifP_true, ↓ifP_false, ↓ifP_not, Nat.reduceLT, Nat.reduceAdd, Nat.reduceBEq, Nat.reduceSub, Nat.reduceLeDiff, Nat.reduceEqDiff, Nat.reduceMul, Int.reduceToNat, Int.reduceEq, Int.reduceLT, Int.reduceLE, Int.reduceAdd, Int.reduceSub, Int.reduceMul, reduceCtorEq, cond_true, cond_false, forall_eq', forall_eq, forall_const, implies_true, if_true, if_false, exists_eq_left', exists_eq', exists_eq, ne_eq, Tryd.f36, tb36_64, tb36_37, tb36_65, spParse_q, spParse_A, spParse_pre, spParse_post, spKind_q, spKind_A, spKind_pre, spKind_post, spSplA_q, spSplA_A, spSplA_pre, spSplA_post, spNum_q, spNum_A, spNum_pre, spNum_post, hlt]))
    all_goals
      repeat' (first | apply And.intro | (intro _) | omega | assumption | with_reducible rfl)
    all_goals try (refine drawI (VE.Plan.first 0 (VE.Plan.first 1 (VE.Plan.first 2 (VE.Plan.first 4 (VE.Plan.first 5 (VE.Plan.first 6 (VE.Plan.alt 3 (VE.Plan.alt 7 (VE.Plan.first 8 (VE.Plan.alt 9 VE.Plan.nil VE.Plan.nil)) VE.Plan.nil) VE.Plan.nil))))))) (by decide +kernel) ?_; (first | simp (config := { maxSteps := 1000000 }) only [go_sem, ↓ifP_true, ↓ifP_false, ↓ifP_not, Nat.reduceLT, Nat.reduceAdd, Nat.reduceBEq, Nat.reduceSub, Nat.reduceLeDiff, Nat.reduceEqDiff, Nat.reduceMul, Int.reduceToNat, Int.reduceEq, Int.reduceLT, Int.reduceLE, Int.reduceAdd, Int.reduceSub, Int.reduceMul, reduceCtorEq, cond_true, cond_false, forall_eq', forall_eq, forall_const, implies_true, if_true, if_false, exists_eq_left', exists_eq', exists_eq, ne_eq, planW, stepW, Go.VE.stepT, Go.VE.clearO, Tryd.f36, tb36_64, tb36_37, tb36_65, spParse_q, spParse_A, spParse_pre, spParse_post, spKind_q, spKind_A, spKind_pre, spKind_post, spSplA_q, spSplA_A, spSplA_pre, spSplA_post, spNum_q, spNum_A, spNum_pre, spNum_post, hlt, hk] | simp (config := { maxSteps := 1000000 }) only [go_sem, ↓ifP_true, ↓ifP_false, ↓ifP_not, Nat.reduceLT, Nat.reduceAdd, Nat.reduceBEq, Nat.reduceSub, Nat.reduceLeDiff, Nat.reduceEqDiff, Nat.reduceMul, Int.reduceToNat, Int.reduceEq, Int.reduceLT, Int.reduceLE, Int.reduceAdd, Int.reduceSub, Int.reduceMul, reduceCtorEq, cond_true, cond_false, forall_eq', forall_eq, forall_const, implies_true, if_true, if_false, exists_eq_left', exists_eq', exists_eq, ne_eq, planW, stepW, Go.VE.stepT, Go.VE.clearO, Tryd.f36, tb36_64, tb36_37, tb36_65, spParse_q, spParse_A, spParse_pre, spParse_post, spKind_q, spKind_A, spKind_pre, spKind_post, spSplA_q, spSplA_A, spSplA_pre, spSplA_post, spNum_q, spNum_A, spNum_pre, spNum_post]); repeat' (first | apply And.intro | (intro _) | omega | assumption | with_reducible rfl))
  
  any_goals
    refine loopS (α := (List Pt) × Int) false [1, 4, 6, 7, 8, 9, 10, 11, 12, 13, 14, 15, 16, 17, 18, 19, 20, 21, 22, 23, 24, 25, 26, 27, 28, 29, 30, 31, 32, 33, 34, 35, 36, 37, 38, 39, 40, 41, 42, 43, 44, 45, 46, 47, 48, 49, 50, 51, 52, 53, 54, 55, 56, 57, 58] (fun σ => [gId (σ.get 6)]) (fun σ x => [(6, .c (.own (gId (σ.get 6)) (x.1).length false)), (4, I x.2)]) (fun σ x => [(gId (σ.get 6), some ⟨(x.1).map ptC, 2, 47, true, false⟩)]) (fun (q, j) => 0) (fun σ => (gL ptCd σ (σ.get 6), gI (σ.get 4))) (fun σ τ => [(gId (σ.get 6), gId (τ.get 6))]) (fun (q, j) => (i < j ∧ j ≤ w.length) ∧ (q.length : Int) ≤ j ∧ pS w j = o ++ [⟨kindW (tx x), q⟩]) (fun (q, j) => (w.length - j).toNat) ⟨by (simp (config := { maxSteps := 1000000 }) only [go_sem, ↓ifP_true, ↓ifP_false, ↓ifP_not, Nat.reduceLT, Nat.reduceAdd, Nat.reduceBEq, Nat.reduceSub, Nat.reduceLeDiff, Nat.reduceEqDiff, Nat.reduceMul, Int.reduceToNat, Int.reduceEq, Int.reduceLT, Int.reduceLE, Int.reduceAdd, Int.reduceSub, Int.reduceMul, reduceCtorEq, cond_true, cond_false, forall_eq', forall_eq, forall_const, implies_true, if_true, if_false, exists_eq_left', exists_eq', exists_eq, ne_eq, Tryd.f36, tb36_64, tb36_37, tb36_65, spParse_q, spParse_A, spParse_pre, spParse_post, spKind_q, spKind_A, spKind_pre, spKind_post, spSplA_q, spSplA_A, spSplA_pre, spSplA_post, spNum_q, spNum_A, spNum_pre, spNum_post]; (repeat' (first | apply And.intro | (intro _) | omega | assumption | with_reducible rfl)); all_goals (first | exact hinv.2.2.2.step hkx hinv.1.1 hinv.2.2.1 | skip)), ?_⟩
    rintro ⟨q, j⟩ hinv
    try dsimp only at hinv
    rcases elemAt w j (by omega) with ⟨hlt, y, hk⟩ | hlt
    all_goals (first | ((have hlt2 := of_eq_true hlt); (have hY := hpre.2 y (List.mem_of_getElem? hk)); all_goals simp (config := { maxSteps := 1000000 }) only [go_sem, ↓ifP_true, ↓ifP_false, ↓ifP_not, Nat.reduceLT, Nat.reduceAdd, Nat.reduceBEq, Nat.reduceSub, Nat.reduceLeDiff, Nat.reduceEqDiff, Nat.reduceMul, Int.reduceToNat, Int.reduceEq, Int.reduceLT, Int.reduceLE, Int.reduceAdd, Int.reduceSub, Int.reduceMul, reduceCtorEq, cond_true, cond_false, forall_eq', forall_eq, forall_const, implies_true, if_true, if_false, exists_eq_left', exists_eq', exists_eq, ne_eq, Tryd.f36, tb36_64, tb36_37, tb36_65, spParse_q, spParse_A, spParse_pre, spParse_post, spKind_q, spKind_A, spKind_pre, spKind_post, spSplA_q, spSplA_A, spSplA_pre, spSplA_post, spNum_q, spNum_A, spNum_pre, spNum_post, hlt, hk]) | (have hlt2 := of_eq_false hlt; simp (config := { maxSteps := 1000000 }) only [go_sem, ↓ifP_true, ↓ifP_false, ↓ifP_not, Nat.reduceLT, Nat.reduceAdd, Nat.reduceBEq, Nat.reduceSub, Nat.reduceLeDiff, Nat.reduceEqDiff, Nat.reduceMul, Int.reduceToNat, Int.reduceEq, Int.reduceLT, Int.reduceLE, Int.reduceAdd, Int.reduceSub, Int.reduceMul, reduceCtorEq, cond_true, cond_false, forall_eq', forall_eq, forall_const, implies_true, if_true, if_false, exists_eq_left', exists_eq', exists_eq, ne_eq, Tryd.f36, tb36_64, tb36_37, tb36_65, spParse_q, spParse_A, spParse_pre, spParse_post, spKind_q, spKind_A, spKind_pre, spKind_post, spSplA_q, spSplA_A, spSplA_pre, spSplA_post, spNum_q, spNum_A, spNum_pre, spNum_post, hlt]))
    all_goals
    repeat' (first | apply And.intro | (intro _) | omega | assumption | with_reducible rfl)
    all_goals try (refine drawI (VE.Plan.first 0 (VE.Plan.first 1 (VE.Plan.first 2 (VE.Plan.first 4 (VE.Plan.first 5 (VE.Plan.first 6 (VE.Plan.alt 3 (VE.Plan.alt 7 (VE.Plan.first 8 (VE.Plan.alt 9 VE.Plan.nil VE.Plan.nil)) VE.Plan.nil) VE.Plan.nil))))))) (by decide +kernel) ?_; (first | simp (config := { maxSteps := 1000000 }) only [go_sem, ↓ifP_true, ↓ifP_false, ↓ifP_not, Nat.reduceLT, Nat.reduceAdd, Nat.reduceBEq, Nat.reduceSub, Nat.reduceLeDiff, Nat.reduceEqDiff, Nat.reduceMul, Int.reduceToNat, Int.reduceEq, Int.reduceLT, Int.reduceLE, Int.reduceAdd, Int.reduceSub, Int.reduceMul, reduceCtorEq, cond_true, cond_false, forall_eq', forall_eq, forall_const, implies_true, if_true, if_false, exists_eq_left', exists_eq', exists_eq, ne_eq, planW, stepW, Go.VE.stepT, Go.VE.clearO, Tryd.f36, tb36_64, tb36_37, tb36_65, spParse_q, spParse_A, spParse_pre, spParse_post, spKind_q, spKind_A, spKind_pre, spKind_post, spSplA_q, spSplA_A, spSplA_pre, spSplA_post, spNum_q, spNum_A, spNum_pre, spNum_post, hlt, hk] | simp (config := { maxSteps := 1000000 }) only [go_sem, ↓ifP_true, ↓ifP_false, ↓ifP_not, Nat.reduceLT, Nat.reduceAdd, Nat.reduceBEq, Nat.reduceSub, Nat.reduceLeDiff, Nat.reduceEqDiff, Nat.reduceMul, Int.reduceToNat, Int.reduceEq, Int.reduceLT, Int.reduceLE, Int.reduceAdd, Int.reduceSub, Int.reduceMul, reduceCtorEq, cond_true, cond_false, forall_eq', forall_eq, forall_const, implies_true, if_true, if_false, exists_eq_left', exists_eq', exists_eq, ne_eq, planW, stepW, Go.VE.stepT, Go.VE.clearO, Tryd.f36, tb36_64, tb36_37, tb36_65, spParse_q, spParse_A, spParse_pre, spParse_post, spKind_q, spKind_A, spKind_pre, spKind_post, spSplA_q, spSplA_A, spSplA_pre, spSplA_post, spNum_q, spNum_A, spNum_pre, spNum_post]); repeat' (first | apply And.intro | (intro _) | omega | assumption | with_reducible rfl))
  all_goals (first | (omega; done) | ((have h9 := (spl_at (spl_ex ‹∃ a, _ ∧ mkB a = _›)).1; omega); done) | ((rename_i a ha _ _; have h9 := (spl_at (spl_ex ha)).1; omega); done) | ((rename_i h2 a ha b hb; exact pS_point hk (by omega) ‹_› hinv.2.2 (ptOf_two h2 (spl_ex ha) (spl_ex hb))); done) | ((exact pS_point hk (by omega) ‹_› hinv.2.2 (ptOf_bad ‹_›)); done) | (exact hinv.2.2.symm; done) | (exact vbnd.letter hk (by omega); done) | (exact vbnd.fin (by omega); done) | ((rw [hinv.2.2.1, pS_end (by omega)]); done) | ((have h9 := hpre.2 _ (List.mem_of_getElem? ‹_›); omega); done) | (skip; done))
theorem sat_spec_parsePath : Sat Tryd.prog rt0 36 (wkIn spParse) := sat_in (sat_out sat_spec_parsePath_0)
end Go.Proofs.YthphndhiacikaaaDoor
