/- Contracts of functions of the program vectorraster, each proved for all states that fit its description. No conditions. -/
import Derived.Test.YthphndhiacikaaaDoorT2Z4
set_option maxRecDepth 100000
set_option linter.unusedSimpArgs false
set_option linter.unusedVariables false
namespace Go.Proofs.YthphndhiacikaaaDoor
open Go Go.VE
theorem num_len1 {x : ByteArray} {f : Nat} (hf : frm (tx x) = f) (h : (x.size : Int) = f ∨ (f : Int) + 4 < x.size) : numW (tx x) = 1001 := by
  apply num_len
  rw [tx_len, hf]
  omega
theorem num_dig1 {x : ByteArray} {i : Int} {u : UInt8} (hk : x.data[i.toNat]? = some u) (hi : (frm (tx x) : Int) ≤ i) (h : ¬ (48 ≤ (u.toNat : Int) ∧ (u.toNat : Int) ≤ 57)) : numW (tx x) = 1001 := by
  have hk' := dat_tx hk
  refine num_dig (j := (i - frm (tx x)).toNat) (c := u) ?_ (by omega)
  rw [List.getElem?_drop, ← hk']
  congr 1; omega
/-- What has been read so far. -/
structure NumInv (x : ByteArray) (n i : Int) : Prop where
  val : n = (val 0 (((tx x).drop (frm (tx x))).take (i - frm (tx x)).toNat) : Nat)
  dig : ∀ c ∈ ((tx x).drop (frm (tx x))).take (i - frm (tx x)).toNat, 48 ≤ c.toNat ∧ c.toNat ≤ 57
theorem NumInv.zero {x : ByteArray} {i : Int} (h : i = frm (tx x)) : NumInv x 0 i := by
  subst h
  refine ⟨by simp [Go.Proofs.YthphndhiacikaaaDoor.val], fun c hc => by simp at hc⟩
theorem NumInv.step {x : ByteArray} {n i : Int} {u : UInt8} (H : NumInv x n i) (hk : x.data[i.toNat]? = some u) (hi : (frm (tx x) : Int) ≤ i) (h : 48 ≤ (u.toNat : Int) ∧ (u.toNat : Int) ≤ 57) : NumInv x (10 * n + u.toNat - 48) (i + 1) := by
  have hk' := dat_tx hk
  refine ⟨?_, ?_⟩
  · rw [val_step hk' hi, H.val]; omega
  · have e : ((tx x).drop (frm (tx x)))[(i - frm (tx x)).toNat]? = some u := by
      rw [List.getElem?_drop, ← hk']; congr 1; omega
    rw [show (i + 1 - frm (tx x)) = (i - frm (tx x)) + 1 by omega, takeN e (by omega)]
    intro c hc
    rcases List.mem_append.1 hc with hc | hc
    · exact H.dig c hc
    · simp only [List.mem_singleton] at hc
      subst hc; omega
theorem NumInv.bd {x : ByteArray} {n i : Int} (H : NumInv x n i) (hl : (i - frm (tx x)) ≤ 4) : 0 ≤ n ∧ n ≤ 9999 := by
  have h1 := val_lt _ 4 H.dig (by rw [List.length_take]; omega) 0
  rw [H.val]
  simp only [Nat.zero_add, Nat.one_mul, Nat.reducePow] at h1
  omega
theorem NumInv.fin {x : ByteArray} {n i v : Int} (H : NumInv x n i) (hi : ¬ i < (x.size : Int)) (hl : (x.size : Int) - frm (tx x) ≤ 4) (hv : v = if frm (tx x) = 1 then -n else n) : numW (tx x) = if Lib.itoa v = tx x then v else 1001 := by
  have e : ((tx x).drop (frm (tx x))).take (i - frm (tx x)).toNat = (tx x).drop (frm (tx x)) := List.take_of_length_le (by rw [List.length_drop, tx_len]; omega)
  have h1 := val_lt _ 4 H.dig (by rw [e, List.length_drop, tx_len]; omega) 0
  have hval := H.val
  rw [e] at h1 hval
  refine num_end (by rw [hv, hval]) ?_
  simp at h1
  omega
theorem NumInv.rng {x : ByteArray} {n i : Int} (H : NumInv x n i) (hi : i ≤ (x.size : Int)) (hl : (x.size : Int) - frm (tx x) ≤ 4) : 0 ≤ n ∧ n ≤ 9999 := H.bd (by omega)
theorem NumInv.step2 {x : ByteArray} {n i : Int} {u w : UInt8} (H : NumInv x n i) (hk : x.data[i.toNat]? = some u) (hk2 : x.data[i.toNat]? = some w) (hi : (frm (tx x) : Int) ≤ i) (h0 : 48 ≤ (u.toNat : Int)) (h1 : (u.toNat : Int) ≤ 57) : NumInv x (10 * n + w.toNat - 48) (i + 1) := by
  obtain rfl := Option.some.inj (hk.symm.trans hk2)
  exact H.step hk hi ⟨h0, h1⟩
theorem u8_rng (u : UInt8) : 0 ≤ (u.toNat : Int) ∧ (u.toNat : Int) ≤ 255 := ⟨by omega, by have := u.toNat_lt; omega⟩
theorem itoa_ne_tx {v : Int} {x : ByteArray} (h : ¬ mkB (Lib.itoa v) = x) : ¬ Lib.itoa v = tx x := fun e => h (by rw [e, mk_tx])
theorem itoa_eq_tx {v : Int} {x : ByteArray} (h : mkB (Lib.itoa v) = x) : Lib.itoa v = tx x := by rw [← h, tx_mk]
def spNum_A : ByteArray → List AV
  | x => [.c (.v (.string x))]
def spNum_pre : ByteArray → Prop
  | x => x.size ≤ 1000000000
def spNum_post : ByteArray → AV → List Box → Prop
  | x, r, bs => r = I (numW (tx x)) ∧ bs = []
def spNum : VE.Spec := famSpec spNum_A d_s spNum_pre spNum_post 0 true
theorem spNum_q : spNum.flat = true ∧ spNum.mt = [] ∧ spNum.shut = false ∧ spNum.cost = 0 ∧ (∀ a i, spNum.pre a i = (i = [] ∧ famPre d_s spNum_A spNum_pre a)) ∧ ∀ a i r b, spNum.post a i r b = (famPost d_s spNum_post a r b) := ⟨rfl, rfl, rfl, rfl, fun _ _ => rfl, fun _ _ _ _ => rfl⟩
def tb65 : Nat → Option VE.Spec := tabOf [(88, wkIn spIn), (42, wkIn spDecI)]
theorem tb65_88 : tb65 88 = some (wkIn spIn) := rfl
theorem tb65_42 : tb65 42 = some (wkIn spDecI) := rfl
theorem tb65_ok : TabOK Tryd.prog rt0 tb65 := (tabOf_cons (by kernel_rfl) sat_spec_inRange (tabOf_cons (by kernel_rfl) sat_spec_decimal tabOf_nil))
set_option maxHeartbeats 4000000 in
theorem sat_spec_parseInt_0 : Sat Tryd.prog rt0 65 (wkOut spNum) := by
  refine fn_sat hm ttok (tab := tb65) tb65_ok Tryd.func65 (c := Tryd.f65.body.getD .skip) (by kernel_rfl) (ts := [.tmp 2]) (by kernel_rfl) Tryd.ntmps65 (sq := fun _ => true) (by kernel_rfl) ?_
  intro args ins pk hpre0 hpk
  obtain ⟨rfl, hpre0⟩ := hpre0
  obtain ⟨x, rfl, hpre, hdec⟩ := famPre_ex hpre0
  clear hpre0 hdec
  try simp only [spNum_pre] at hpre
  replace hpk : pk + 0 ≤ pickLimit := hpk
  refine ⟨Nat.le_of_ble_eq_true rfl, ?_⟩
  simp (config := { maxSteps := 1000000 }) only [go_sem, ↓ifP_true, ↓ifP_false, ↓ifP_not, Nat.reduceLT, Nat.reduceAdd, Nat.reduceBEq, Nat.reduceSub, Nat.reduceLeDiff, Nat.reduceEqDiff, Nat.reduceMul, Int.reduceToNat, Int.reduceEq, Int.reduceLT, Int.reduceLE, Int.reduceAdd, Int.reduceSub, Int.reduceMul, reduceCtorEq, cond_true, cond_false, forall_eq', forall_eq, forall_const, implies_true, if_true, if_false, exists_eq_left', exists_eq', exists_eq, ne_eq, Tryd.f65, tb65_88, tb65_42, spNum_q, spNum_A, spNum_pre, spNum_post, spIn_q, spIn_A, spIn_pre, spIn_post, spDecI_q, spDecI_A, spDecI_pre, spDecI_post]
  repeat' (first | apply And.intro | (intro _) | omega | assumption | with_reducible rfl)
  all_goals try (have hF := frm1 ‹x.data[0]? = some _› ‹_›)
  all_goals try (have hF := frm0 ‹x.data[0]? = some _› ‹_›)
  all_goals try (have hF := frm00 ‹¬ (0 : Int) < x.size›)
  any_goals
    refine loopS (α := Int × Int) false [1, 2, 3, 5, 6, 7, 8, 9, 10, 11, 12, 13, 14, 15, 16, 17, 18, 19, 20, 21, 22, 23, 24, 25, 26, 27, 28, 29, 30, 31, 32, 33, 34, 35, 36, 37, 38, 39, 40, 41, 42, 43, 44, 45, 47, 53] (fun σ => []) (fun σ x => [(3, I x.1), (5, I x.2)]) (fun σ x => []) (fun (n, i) => 0) (fun σ => (gI (σ.get 3), gI (σ.get 5))) (fun σ τ => []) (fun (n, i) => ((frm (tx x) : Int) ≤ i ∧ i ≤ x.size) ∧ NumInv x n i) (fun (n, i) => (x.size - i).toNat) ⟨by (simp (config := { maxSteps := 1000000 }) only [go_sem, ↓ifP_true, ↓ifP_false, ↓ifP_not, Nat.reduceLT, Nat.reduceAdd, Nat.reduceBEq, Nat.reduceSub, Nat.reduceLeDiff, Nat.reduceEqDiff, Nat.reduceMul, Int.reduceToNat, Int.reduceEq, Int.reduceLT, Int.reduceLE, Int.reduceAdd, Int.reduceSub, Int.reduceMul, reduceCtorEq, cond_true, cond_false, forall_eq', forall_eq, forall_const, implies_true, if_true, if_false, exists_eq_left', exists_eq', exists_eq, ne_eq, Tryd.f65, tb65_88, tb65_42, spNum_q, spNum_A, spNum_pre, spNum_post, spIn_q, spIn_A, spIn_pre, spIn_post, spDecI_q, spDecI_A, spDecI_pre, spDecI_post]; (repeat' (first | apply And.intro | (intro _) | omega | assumption | with_reducible rfl)); all_goals (first | exact NumInv.zero (by omega) | omega | skip)), ?_⟩
    rintro ⟨n, i⟩ hinv
    try dsimp only at hinv
    simp (config := { maxSteps := 1000000 }) only [go_sem, ↓ifP_true, ↓ifP_false, ↓ifP_not, Nat.reduceLT, Nat.reduceAdd, Nat.reduceBEq, Nat.reduceSub, Nat.reduceLeDiff, Nat.reduceEqDiff, Nat.reduceMul, Int.reduceToNat, Int.reduceEq, Int.reduceLT, Int.reduceLE, Int.reduceAdd, Int.reduceSub, Int.reduceMul, reduceCtorEq, cond_true, cond_false, forall_eq', forall_eq, forall_const, implies_true, if_true, if_false, exists_eq_left', exists_eq', exists_eq, ne_eq, Tryd.f65, tb65_88, tb65_42, spNum_q, spNum_A, spNum_pre, spNum_post, spIn_q, spIn_A, spIn_pre, spIn_post, spDecI_q, spDecI_A, spDecI_pre, spDecI_post]
    repeat' (first | apply And.intro | (intro _) | omega | assumption | with_reducible rfl)
  
  all_goals (first | (omega; done) | (exact (num_len1 hF (by omega)).symm; done) | ((have h9 := hinv.2.rng (by omega) (by omega); have h8 := u8_rng ‹UInt8›; omega); done) | ((rename_i u _; have h8 := u8_rng u; have h9 := hinv.2.rng (by omega) (by omega); omega); done) | ((have h9 := hinv.2.rng (by omega) (by omega); repeat (have h8 := u8_rng _; revert h8); omega); done) | (exact (num_dig1 ‹x.data[i.toNat]? = some _› (by omega) (by omega)).symm; done) | ((rename_i u hu h48 h57 w hw; exact hinv.2.step2 hu hw (by omega) h48 h57); done) | ((rw [hinv.2.fin ‹_› (by omega) (v := 0 - n) (by simp [hF]), if_pos (itoa_eq_tx ‹_›)]); done) | ((rw [hinv.2.fin ‹_› (by omega) (v := 0 - n) (by simp [hF]), if_neg (itoa_ne_tx ‹_›)]); done) | ((rw [hinv.2.fin ‹_› (by omega) (v := n) (by simp [hF]), if_pos (itoa_eq_tx ‹_›)]); done) | ((rw [hinv.2.fin ‹_› (by omega) (v := n) (by simp [hF]), if_neg (itoa_ne_tx ‹_›)]); done) | (skip; done))
theorem sat_spec_parseInt : Sat Tryd.prog rt0 65 (wkIn spNum) := sat_in (sat_out sat_spec_parseInt_0)
end Go.Proofs.YthphndhiacikaaaDoor
