/- Contracts of functions of the program vectorraster, each proved for all states that fit its description. No conditions. -/
import Derived.Test.YthphndhiacikaaaDoorPL
import Derived.Test.YthphndhiacikaaaDoorT2KX
set_option maxRecDepth 100000
set_option linter.unusedSimpArgs false
set_option linter.unusedVariables false
namespace Go.Proofs.YthphndhiacikaaaDoor
open Go Go.VE
theorem dat_tx {x : ByteArray} {i : Nat} {u : UInt8} (h : x.data[i]? = some u) : (tx x)[i]? = some u := by
  rw [← h, tx, Array.getElem?_toList]
theorem spl_eq {x : ByteArray} {o : List ByteArray} {c i f : Int} {u : UInt8} (hk : x.data[i.toNat]? = some u) (hc : (u.toNat : Int) = c) (h0 : 0 ≤ i) (hf : 0 ≤ f ∧ f ≤ i)
    (h : spl (UInt8.ofNat c.toNat) ((tx x).take i.toNat) = o.map tx ++ [((tx x).take i.toNat).drop f.toNat]) :
    spl (UInt8.ofNat c.toNat) ((tx x).take (i + 1).toNat) = (o ++ [x.extract f.toNat i.toNat]).map tx ++ [((tx x).take (i + 1).toNat).drop (i + 1).toNat] := by
  have hk' := dat_tx hk
  have hu : u = UInt8.ofNat c.toNat := by
    rw [← hc, Int.toNat_natCast]; simp
  rw [takeN hk' h0, spl_snoc _ _ h, if_pos hu]
  have hl := (List.getElem?_eq_some_iff.1 hk').1
  rw [List.map_append, List.map_cons, List.map_nil, tx_ext, show List.drop (i + 1).toNat (List.take i.toNat (tx x) ++ [u]) = [] from List.drop_eq_nil_of_le (by rw [List.length_append, List.length_take, List.length_singleton]; omega)]
  simp
theorem spl_neq {x : ByteArray} {o : List ByteArray} {c i f : Int} {u : UInt8} (hk : x.data[i.toNat]? = some u) (hc : ¬ (u.toNat : Int) = c) (hr : 0 ≤ c ∧ c ≤ 255) (h0 : 0 ≤ i) (hf : 0 ≤ f ∧ f ≤ i)
    (h : spl (UInt8.ofNat c.toNat) ((tx x).take i.toNat) = o.map tx ++ [((tx x).take i.toNat).drop f.toNat]) :
    spl (UInt8.ofNat c.toNat) ((tx x).take (i + 1).toNat) = o.map tx ++ [((tx x).take (i + 1).toNat).drop f.toNat] := by
  have hk' := dat_tx hk
  have hu : ¬ u = UInt8.ofNat c.toNat := by
    rintro rfl
    apply hc
    rw [UInt8.toNat_ofNat']
    omega
  rw [takeN hk' h0, spl_snoc _ _ h, if_neg hu]
  have hl := (List.getElem?_eq_some_iff.1 hk').1
  rw [List.drop_append_of_le_length (by rw [List.length_take]; omega)]
theorem spl_end {x : ByteArray} {o : List ByteArray} {c i f : Int} (hi : ¬ i < (x.size : Int)) (h1 : i ≤ x.size)
    (h : spl (UInt8.ofNat c.toNat) ((tx x).take i.toNat) = o.map tx ++ [((tx x).take i.toNat).drop f.toNat]) : (spl (UInt8.ofNat c.toNat) (tx x)).map mkB = o ++ [x.extract f.toNat x.size] := by
  have e : (tx x).take i.toNat = tx x := List.take_of_length_le (by rw [tx_len]; omega)
  rw [e] at h
  rw [h, List.map_append, List.map_map, List.map_cons, List.map_nil]
  have e2 : o.map (mkB ∘ tx) = o := List.map_id' _
  rw [e2]
  congr 2
  apply tx_inj
  rw [tx_mk, tx_ext, List.take_of_length_le (by rw [tx_len]; omega)]
theorem one_eq (c : UInt8) (x : ByteArray) : ((ByteArray.mk #[c]) = x) = (tx x = [c]) := propext ⟨fun h => by rw [← h]; rfl, fun h => tx_inj (by rw [h]; rfl)⟩
def kindF (n : Nat) (w : List UInt8) : Int := if n ≤ 0 ∧ w = [77] then 0 else if n ≤ 1 ∧ w = [76] then 1 else if n ≤ 2 ∧ w = [81] then 2 else if n ≤ 3 ∧ w = [67] then 3 else if n ≤ 4 ∧ w = [90] then 4 else -1
theorem kindF_0 (w : List UInt8) : kindF 0 w = kindW w := by simp [kindF, kindW]
theorem kindW_bd (w : List UInt8) : -1 ≤ kindW w ∧ kindW w ≤ 4 := by unfold kindW; repeat' split <;> omega
/-! Numbers of at most four digits. -/
def frm (w : List UInt8) : Nat := if w.head? = some 45 then 1 else 0
theorem frm1 {x : ByteArray} {u : UInt8} (h : x.data[0]? = some u) (hu : (u.toNat : Int) = 45) : frm (tx x) = 1 := by
  have h' := dat_tx h
  unfold frm
  rw [← List.head?_eq_getElem?] at h'
  rw [h', if_pos]
  congr 1
  exact UInt8.toNat_inj.1 (by have : u.toNat = 45 := by omega
                              rw [this]; rfl)
theorem frm0 {x : ByteArray} {u : UInt8} (h : x.data[0]? = some u) (hu : ¬ (u.toNat : Int) = 45) : frm (tx x) = 0 := by
  have h' := dat_tx h
  unfold frm
  rw [← List.head?_eq_getElem?] at h'
  rw [h', if_neg]
  intro e
  apply hu
  rw [Option.some.inj e]; rfl
theorem frm00 {x : ByteArray} (h : ¬ (0 : Int) < x.size) : frm (tx x) = 0 := by
  have : tx x = [] := List.length_eq_zero_iff.1 (by rw [tx_len]; omega)
  rw [this]; rfl
theorem itoa_shape {n : Int} : frm (Lib.itoa n) = (if n < 0 then 1 else 0) ∧ (Lib.itoa n).drop (frm (Lib.itoa n)) = Lib.decDigits n.natAbs ∧ (Lib.itoa n).length = frm (Lib.itoa n) + (Lib.decDigits n.natAbs).length := by
  by_cases h : n < 0
  · have e : Lib.itoa n = 45 :: Lib.decDigits n.natAbs := by unfold Lib.itoa; rw [if_pos h]
    rw [e, if_pos h]
    refine ⟨by simp [frm], ?_, ?_⟩
    · simp [frm]
    · simp [frm]; omega
  · have e : Lib.itoa n = Lib.decDigits n.natAbs := by
      rw [itoa_pos (by omega)]; congr 1; omega
    obtain ⟨_, h2, h3⟩ := val_dec n.natAbs
    have hf : frm (Lib.decDigits n.natAbs) = 0 := by
      unfold frm
      rw [if_neg]
      cases hd : Lib.decDigits n.natAbs with
      | nil => exact absurd hd h3
      | cons c r =>
        intro hc
        have := h2 c (by rw [hd]; simp)
        simp only [List.head?_cons, Option.some.injEq] at hc
        subst hc
        exact absurd this.1 (by decide)
    rw [e, hf, if_neg h]
    exact ⟨rfl, rfl, by omega⟩
theorem num_bad {w : List UInt8} (h : ∀ n : Int, -9999 ≤ n → n ≤ 9999 → Lib.itoa n ≠ w) : numW w = 1001 := by
  unfold numW
  split
  · rename_i n hn
    split
    · rename_i hh
      exact absurd hh.1 (h n hh.2.1 hh.2.2)
    · rfl
  · rfl
theorem num_len {w : List UInt8} (h : w.length = frm w ∨ frm w + 4 < w.length) : numW w = 1001 := by
  apply num_bad
  rintro n h0 h1 rfl
  obtain ⟨_, _, h3⟩ := itoa_shape (n := n)
  have h4 := dec_len (u := n.natAbs) (k := 3) (by simp; omega)
  have h5 := List.length_pos_iff.2 (val_dec n.natAbs).2.2
  omega
theorem num_dig {w : List UInt8} {j : Nat} {c : UInt8} (h : (w.drop (frm w))[j]? = some c) (hc : ¬ (48 ≤ c.toNat ∧ c.toNat ≤ 57)) : numW w = 1001 := by
  apply num_bad
  rintro n h0 h1 rfl
  obtain ⟨_, h2, _⟩ := itoa_shape (n := n)
  rw [h2] at h
  exact hc ((val_dec n.natAbs).2.1 c (List.mem_of_getElem? h))
theorem num_end {w : List UInt8} {v : Int} (hv : v = if frm w = 1 then -((val 0 (w.drop (frm w)) : Nat) : Int) else val 0 (w.drop (frm w))) (h1 : val 0 (w.drop (frm w)) ≤ 9999) : numW w = if Lib.itoa v = w then v else 1001 := by
  by_cases h : Lib.itoa v = w
  · rw [if_pos h, ← h]
    exact numW_itoa (by split at hv <;> omega) (by split at hv <;> omega)
  · rw [if_neg h]
    apply num_bad
    rintro n h0 h2 rfl
    apply h
    obtain ⟨h3, h4, _⟩ := itoa_shape (n := n)
    rw [h4, (val_dec n.natAbs).1, h3] at hv
    congr 1
    by_cases hn : n < 0
    · rw [if_pos hn, if_pos rfl] at hv; omega
    · rw [if_neg hn, if_neg (by decide)] at hv; omega
theorem val_step {w : List UInt8} {i : Int} {c : UInt8} (h : w[i.toNat]? = some c) (h0 : (frm w : Int) ≤ i) : val 0 ((w.drop (frm w)).take (i + 1 - frm w).toNat) = 10 * val 0 ((w.drop (frm w)).take (i - frm w).toNat) + (c.toNat - 48) := by
  have e : (w.drop (frm w))[(i - frm w).toNat]? = some c := by
    rw [List.getElem?_drop, ← h]; congr 1; omega
  rw [show (i + 1 - frm w) = (i - frm w) + 1 by omega, takeN e (by omega), val_app]
  rfl
theorem val_lt : ∀ (l : List UInt8) (k : Nat), (∀ c ∈ l, 48 ≤ c.toNat ∧ c.toNat ≤ 57) → l.length ≤ k → ∀ a, val a l < (a + 1) * 10 ^ k
  | [], k, _, _, a => by
    have : 1 ≤ 10 ^ k := Nat.one_le_pow _ _ (by decide)
    have := Nat.mul_le_mul_left (a + 1) this
    simp only [val, List.foldl_nil]; omega
  | c :: r, 0, _, h, a => by simp at h
  | c :: r, k + 1, hc, h, a => by
    have h1 := hc c (by simp)
    have ih := val_lt r k (fun x hx => hc x (by simp [hx])) (by simpa using h) (10 * a + (c.toNat - 48))
    have e : val a (c :: r) = val (10 * a + (c.toNat - 48)) r := rfl
    rw [e]
    have : (10 * a + (c.toNat - 48) + 1) * 10 ^ k ≤ (a + 1) * 10 ^ (k + 1) := by
      rw [Nat.pow_succ, Nat.mul_comm (10 ^ k) 10, ← Nat.mul_assoc]
      exact Nat.mul_le_mul_right _ (by omega)
    omega
def spSplA_A : ByteArray × Int → List AV
  | (x, c) => [.c (.v (.string x)), .c (.v (.int .u8 c))]
def spSplA_pre : ByteArray × Int → Prop
  | (x, c) => x.size ≤ 1000000000 ∧ 0 ≤ c ∧ c ≤ 255
def spSplA_post : ByteArray × Int → AV → List Box → Prop
  | (x, c), r, bs => r = .c (.own 0 ((spl (UInt8.ofNat c.toNat) (tx x)).map mkB).length false) ∧ bs = [⟨((spl (UInt8.ofNat c.toNat) (tx x)).map mkB).map sC, 1, 9, true, false⟩]
def spSplA : VE.Spec := famSpec spSplA_A d_s_w spSplA_pre spSplA_post 0 true
theorem spSplA_q : spSplA.flat = true ∧ spSplA.mt = [] ∧ spSplA.shut = false ∧ spSplA.cost = 0 ∧ (∀ a i, spSplA.pre a i = (i = [] ∧ famPre d_s_w spSplA_A spSplA_pre a)) ∧ ∀ a i r b, spSplA.post a i r b = (famPost d_s_w spSplA_post a r b) := ⟨rfl, rfl, rfl, rfl, fun _ _ => rfl, fun _ _ _ _ => rfl⟩
def tb37 : Nat → Option VE.Spec := tabOf []
theorem tb37_ok : TabOK Tryd.prog rt0 tb37 := tabOf_nil
set_option maxHeartbeats 4000000 in
theorem sat_spec_splitAt_0 : Sat Tryd.prog rt0 37 (wkOut spSplA) := by
  refine fn_sat hm ttok (tab := tb37) tb37_ok Tryd.func37 (c := Tryd.f37.body.getD .skip) (by kernel_rfl) (ts := [.tmp 4]) (by kernel_rfl) Tryd.ntmps37 (sq := fun _ => true) (by kernel_rfl) ?_
  intro args ins pk hpre0 hpk
  obtain ⟨rfl, hpre0⟩ := hpre0
  obtain ⟨⟨x, c⟩, rfl, hpre, hdec⟩ := famPre_ex hpre0
  clear hpre0 hdec
  try simp only [spSplA_pre] at hpre
  replace hpk : pk + 0 ≤ pickLimit := hpk
  refine ⟨Nat.le_of_ble_eq_true rfl, ?_⟩
  simp (config := { maxSteps := 1000000 }) only [go_sem, ↓ifP_true, ↓ifP_false, ↓ifP_not, Nat.reduceLT, Nat.reduceAdd, Nat.reduceBEq, Nat.reduceSub, Nat.reduceLeDiff, Nat.reduceEqDiff, Nat.reduceMul, Int.reduceToNat, Int.reduceEq, Int.reduceLT, Int.reduceLE, Int.reduceAdd, Int.reduceSub, Int.reduceMul, reduceCtorEq, cond_true, cond_false, forall_eq', forall_eq, forall_const, implies_true, if_true, if_false, exists_eq_left', exists_eq', exists_eq, ne_eq, Tryd.f37, spSplA_q, spSplA_A, spSplA_pre, spSplA_post]
  repeat' (first | apply And.intro | (intro _) | omega | assumption | with_reducible rfl)
  any_goals
    refine loopS (α := (List ByteArray) × Int × Int) false [2, 3, 5, 6, 7, 8, 9, 10, 11, 12, 13, 14, 15, 16, 17, 18, 19, 20, 21, 22, 23, 24, 25, 26, 27, 28] (fun σ => [gId (σ.get 5)]) (fun σ x => [(5, .c (.own (gId (σ.get 5)) (x.1).length false)), (6, I x.2.1), (7, I x.2.2)]) (fun σ x => [(gId (σ.get 5), some ⟨(x.1).map sC, 1, 9, true, false⟩)]) (fun (o, f, i) => 0) (fun σ => (gL sCd σ (σ.get 5), gI (σ.get 6), gI (σ.get 7))) (fun σ τ => [(gId (σ.get 5), gId (τ.get 5))]) (fun (o, f, i) => (0 ≤ f ∧ f ≤ i) ∧ i ≤ x.size ∧ (o.length : Int) ≤ i ∧ spl (UInt8.ofNat c.toNat) ((tx x).take i.toNat) = o.map tx ++ [((tx x).take i.toNat).drop f.toNat]) (fun (o, f, i) => (x.size - i).toNat) ⟨by (simp (config := { maxSteps := 1000000 }) only [go_sem, ↓ifP_true, ↓ifP_false, ↓ifP_not, Nat.reduceLT, Nat.reduceAdd, Nat.reduceBEq, Nat.reduceSub, Nat.reduceLeDiff, Nat.reduceEqDiff, Nat.reduceMul, Int.reduceToNat, Int.reduceEq, Int.reduceLT, Int.reduceLE, Int.reduceAdd, Int.reduceSub, Int.reduceMul, reduceCtorEq, cond_true, cond_false, forall_eq', forall_eq, forall_const, implies_true, if_true, if_false, exists_eq_left', exists_eq', exists_eq, ne_eq, Tryd.f37, spSplA_q, spSplA_A, spSplA_pre, spSplA_post]; (repeat' (first | apply And.intro | (intro _) | omega | assumption | with_reducible rfl)); all_goals (first | rfl | omega | skip)), ?_⟩
    rintro ⟨o, f, i⟩ hinv
    try dsimp only at hinv
    simp (config := { maxSteps := 1000000 }) only [go_sem, ↓ifP_true, ↓ifP_false, ↓ifP_not, Nat.reduceLT, Nat.reduceAdd, Nat.reduceBEq, Nat.reduceSub, Nat.reduceLeDiff, Nat.reduceEqDiff, Nat.reduceMul, Int.reduceToNat, Int.reduceEq, Int.reduceLT, Int.reduceLE, Int.reduceAdd, Int.reduceSub, Int.reduceMul, reduceCtorEq, cond_true, cond_false, forall_eq', forall_eq, forall_const, implies_true, if_true, if_false, exists_eq_left', exists_eq', exists_eq, ne_eq, Tryd.f37, spSplA_q, spSplA_A, spSplA_pre, spSplA_post]
    repeat' (first | apply And.intro | (intro _) | omega | assumption | with_reducible rfl)
  
  all_goals (first | ((have h9 := spl_eq ‹_› ‹_› (by omega) (by omega) hinv.2.2.2; rw [List.map_append, List.append_assoc] at h9; exact h9); done) | ((have h9 := spl_eq ‹_› ‹_› (by omega) (by omega) hinv.2.2.2; simpa only [go_sem] using h9); done) | (exact spl_neq ‹_› ‹_› hpre.2 (by omega) (by omega) hinv.2.2.2; done) | ((rw [spl_end ‹_› hinv.2.1 hinv.2.2.2, List.length_append, List.length_singleton]); done) | ((rw [spl_end ‹_› hinv.2.1 hinv.2.2.2, List.map_append]; rfl); done) | ((have h9 := congrArg List.length (spl_end ‹_› hinv.2.1 hinv.2.2.2); simp only [List.length_append, List.length_singleton, List.length_map] at h9 ⊢; omega); done) | ((simp only [List.length_append, List.length_singleton]; omega); done) | (omega; done) | ((simp_all only [List.mem_singleton, okV]; done); done) | ((simp_all; done); done) | (skip; done))
theorem sat_spec_splitAt : Sat Tryd.prog rt0 37 (wkIn spSplA) := sat_in (sat_out sat_spec_splitAt_0)
def spKind_A : ByteArray → List AV
  | x => [.c (.v (.string x))]
def spKind_pre : ByteArray → Prop
  | x => True
def spKind_post : ByteArray → AV → List Box → Prop
  | x, r, bs => r = I (kindW (tx x)) ∧ bs = []
def spKind : VE.Spec := famSpec spKind_A d_s spKind_pre spKind_post 0 true
theorem spKind_q : spKind.flat = true ∧ spKind.mt = [] ∧ spKind.shut = false ∧ spKind.cost = 0 ∧ (∀ a i, spKind.pre a i = (i = [] ∧ famPre d_s spKind_A spKind_pre a)) ∧ ∀ a i r b, spKind.post a i r b = (famPost d_s spKind_post a r b) := ⟨rfl, rfl, rfl, rfl, fun _ _ => rfl, fun _ _ _ _ => rfl⟩
def tb64 : Nat → Option VE.Spec := tabOf []
theorem tb64_ok : TabOK Tryd.prog rt0 tb64 := tabOf_nil
set_option maxHeartbeats 4000000 in
theorem sat_spec_kindOf_0 : Sat Tryd.prog rt0 64 (wkOut spKind) := by
  refine fn_sat hm ttok (tab := tb64) tb64_ok Tryd.func64 (c := Tryd.f64.body.getD .skip) (by kernel_rfl) (ts := [.tmp 2]) (by kernel_rfl) Tryd.ntmps64 (sq := fun _ => true) (by kernel_rfl) ?_
  intro args ins pk hpre0 hpk
  obtain ⟨rfl, hpre0⟩ := hpre0
  obtain ⟨x, rfl, hpre, hdec⟩ := famPre_ex hpre0
  clear hpre0 hdec
  try simp only [spKind_pre] at hpre
  replace hpk : pk + 0 ≤ pickLimit := hpk
  refine ⟨Nat.le_of_ble_eq_true rfl, ?_⟩
  simp (config := { maxSteps := 1000000 }) only [go_sem, ↓ifP_true, ↓ifP_false, ↓ifP_not, Nat.reduceLT, Nat.reduceAdd, Nat.reduceBEq, Nat.reduceSub, Nat.reduceLeDiff, Nat.reduceEqDiff, Nat.reduceMul, Int.reduceToNat, Int.reduceEq, Int.reduceLT, Int.reduceLE, Int.reduceAdd, Int.reduceSub, Int.reduceMul, reduceCtorEq, cond_true, cond_false, forall_eq', forall_eq, forall_const, implies_true, if_true, if_false, exists_eq_left', exists_eq', exists_eq, ne_eq, Tryd.f64, spKind_q, spKind_A, spKind_pre, spKind_post, one_eq]
  repeat' (first | apply And.intro | (intro _) | omega | assumption | with_reducible rfl)
  any_goals
    refine loopS (α := Int) false [1, 2, 4, 5, 6, 7, 8, 9, 10, 11, 12, 13, 14, 15, 16, 17, 18] (fun σ => []) (fun σ x => [(4, I x)]) (fun σ x => []) (fun i => 0) (fun σ => gI (σ.get 4)) (fun σ τ => []) (fun i => (0 ≤ i ∧ i ≤ 5) ∧ kindF i.toNat (tx x) = kindW (tx x)) (fun i => (5 - i).toNat) ⟨by (simp (config := { maxSteps := 1000000 }) only [go_sem, ↓ifP_true, ↓ifP_false, ↓ifP_not, Nat.reduceLT, Nat.reduceAdd, Nat.reduceBEq, Nat.reduceSub, Nat.reduceLeDiff, Nat.reduceEqDiff, Nat.reduceMul, Int.reduceToNat, Int.reduceEq, Int.reduceLT, Int.reduceLE, Int.reduceAdd, Int.reduceSub, Int.reduceMul, reduceCtorEq, cond_true, cond_false, forall_eq', forall_eq, forall_const, implies_true, if_true, if_false, exists_eq_left', exists_eq', exists_eq, ne_eq, Tryd.f64, spKind_q, spKind_A, spKind_pre, spKind_post, one_eq, one_eq, Int.reduceToNat]; (repeat' (first | apply And.intro | (intro _) | omega | assumption | with_reducible rfl)); all_goals (first | exact kindF_0 _ | omega | skip)), ?_⟩
    rintro i hinv
    try dsimp only at hinv
    have h5 : i = 0 ∨ i = 1 ∨ i = 2 ∨ i = 3 ∨ i = 4 ∨ i = 5 := by omega
    rcases h5 with rfl | rfl | rfl | rfl | rfl | rfl
    all_goals (simp (config := { maxSteps := 1000000 }) only [go_sem, ↓ifP_true, ↓ifP_false, ↓ifP_not, Nat.reduceLT, Nat.reduceAdd, Nat.reduceBEq, Nat.reduceSub, Nat.reduceLeDiff, Nat.reduceEqDiff, Nat.reduceMul, Int.reduceToNat, Int.reduceEq, Int.reduceLT, Int.reduceLE, Int.reduceAdd, Int.reduceSub, Int.reduceMul, reduceCtorEq, cond_true, cond_false, forall_eq', forall_eq, forall_const, implies_true, if_true, if_false, exists_eq_left', exists_eq', exists_eq, ne_eq, Tryd.f64, spKind_q, spKind_A, spKind_pre, spKind_post, one_eq, one_eq, Int.reduceToNat])
    repeat' (first | apply And.intro | (intro _) | omega | assumption | with_reducible rfl)
  
  all_goals (first | (omega; done) | ((rw [← hinv.2]; simp_all [kindF]; done); done) | ((simp_all [kindF, kindW]; done); done) | (skip; done))
theorem sat_spec_kindOf : Sat Tryd.prog rt0 64 (wkIn spKind) := sat_in (sat_out sat_spec_kindOf_0)
end Go.Proofs.YthphndhiacikaaaDoor
