/- Contracts of functions of the program vectorraster, each proved for all states that fit its description. No conditions. -/
import Derived.Test.YtdkfamajaopgoaaP3K9
import Derived.Test.YtdkfamajaopgoaaPG
set_option linter.unusedSimpArgs false
set_option linter.unusedVariables false
section
set_option maxRecDepth 100000
set_option linter.unusedSimpArgs false
set_option linter.unusedVariables false
namespace Go.Proofs.Ytdkfamajaopgoaa
open Go Go.VE
def d_llpt_i_bx : List AV → Option ((List (List Pt)) × Int × Bx)
  | [.c (.sl _ a0), .c (.v (.int .i64 a1)), .agg a2] => match decAll lptCd a0, bxCd a2 with
    | some a0v, some a2v => some (a0v, a1, a2v)
    | _, _ => none
  | _ => none
attribute [go_sem] d_llpt_i_bx
end Go.Proofs.Ytdkfamajaopgoaa
end
section
set_option maxRecDepth 100000
set_option linter.unusedSimpArgs false
set_option linter.unusedVariables false
namespace Go.Proofs.Ytdkfamajaopgoaa
open Go Go.VE
def rng (a b : Int) : List Int := (List.range (b - a).toNat).map fun i : Nat => a + (i : Int)
theorem rng_step {a i : Int} (h : a ≤ i) : rng a (i + 1) = rng a i ++ [i] := by
  unfold rng
  rw [show (i + 1 - a).toNat = (i - a).toNat + 1 by omega, List.range_succ, List.map_append]
  simp only [List.map_cons, List.map_nil]
  congr 2; omega
theorem rng_len (a b : Int) : (rng a b).length = (b - a).toNat := by simp [rng]
theorem rng_0 (a : Int) : rng a a = [] := by simp [rng]
def maskRow (L : List (List Pt)) (rl a b w : Int) : List Int := (rng a b).map fun c => cov L rl c w
def maskB (L : List (List Pt)) (rl : Int) (b : Bx) (t : Int) : List Int := (rng b.t t).flatMap fun w => maskRow L rl b.l b.r w
theorem maskRow_step (L : List (List Pt)) (rl a w : Int) {i : Int} (h : a ≤ i) : maskRow L rl a (i + 1) w = maskRow L rl a i w ++ [cov L rl i w] := by rw [maskRow, rng_step h, List.map_append]; rfl
theorem maskRow_0 (L : List (List Pt)) (rl a w : Int) : maskRow L rl a a w = [] := by rw [maskRow, rng_0]; rfl
theorem maskB_step (L : List (List Pt)) (rl : Int) (b : Bx) {i : Int} (h : b.t ≤ i) : maskB L rl b (i + 1) = maskB L rl b i ++ maskRow L rl b.l b.r i := by rw [maskB, rng_step h, List.flatMap_append]; simp [maskB]
theorem maskB_0 (L : List (List Pt)) (rl : Int) (b : Bx) : maskB L rl b b.t = [] := by rw [maskB, rng_0]; rfl
theorem maskRow_len (L : List (List Pt)) (rl a b w : Int) : (maskRow L rl a b w).length = (b - a).toNat := by rw [maskRow, List.length_map, rng_len]
theorem flat_const {α : Type} {n : Nat} (f : Int → List α) (h : ∀ w, (f w).length = n) : ∀ l : List Int, (l.flatMap f).length = l.length * n
  | [] => by simp
  | a :: l => by rw [List.flatMap_cons, List.length_append, flat_const f h l, h, List.length_cons, Nat.succ_mul, Nat.add_comm]
theorem maskB_len (L : List (List Pt)) (rl : Int) (b : Bx) (t : Int) : (maskB L rl b t).length = (t - b.t).toNat * (b.r - b.l).toNat := by
  rw [maskB, flat_const _ (fun w => maskRow_len L rl b.l b.r w), rng_len]
theorem mask_small {m n : Nat} (h1 : m ≤ 12) (h2 : n ≤ 12) : m * n ≤ 144 := Nat.mul_le_mul h1 h2
theorem szd_rng {w h : Int} (hs : szd w h = true) : (1 ≤ w ∧ w ≤ 12) ∧ 1 ≤ h ∧ h ≤ 12 := by simpa only [szd, decide_eq_true_eq] using hs
def okMask (L : List (List Pt)) (rl w h : Int) : Bool := vRings L && isRl rl && szd w h
def spMasked_A : (List (List Pt)) × Int × Bx → List AV
  | (L, rl, b) => [.c (.sl false (L.map lptC)), I rl, .agg (bxC b)]
def spMasked_pre : (List (List Pt)) × Int × Bx → Prop
  | (L, rl, b) => vRings L = true ∧ (0 ≤ b.l ∧ b.l ≤ b.r ∧ b.r ≤ 12) ∧ 0 ≤ b.t ∧ b.t ≤ b.b ∧ b.b ≤ 12
def spMasked_post : (List (List Pt)) × Int × Bx → AV → List Box → Prop
  | (L, rl, b), r, bs => r = .c (.own 0 (maskB L rl b b.b).length false) ∧ bs = [⟨(maskB L rl b b.b).map intC, 1, 3, true, false⟩]
def spMasked : VE.Spec := famSpec spMasked_A d_llpt_i_bx spMasked_pre spMasked_post 0 true
theorem spMasked_q : spMasked.flat = true ∧ spMasked.mt = [] ∧ spMasked.shut = false ∧ spMasked.cost = 0 ∧ (∀ a i, spMasked.pre a i = (i = [] ∧ famPre d_llpt_i_bx spMasked_A spMasked_pre a)) ∧ ∀ a i r b, spMasked.post a i r b = (famPost d_llpt_i_bx spMasked_post a r b) := ⟨rfl, rfl, rfl, rfl, fun _ _ => rfl, fun _ _ _ _ => rfl⟩
def spMask_A : (List (List Pt)) × Int × Int × Int → List AV
  | (L, rl, w, h) => [.c (.sl false (L.map lptC)), I rl, I w, I h]
def spMask_pre : (List (List Pt)) × Int × Int × Int → Prop
  | (L, rl, w, h) => L.length ≤ 1000000000 ∧ total L ≤ 1000000000
def spMask_post : (List (List Pt)) × Int × Int × Int → AV → List Box → Prop
  | (L, rl, w, h), r, bs => r = .c (.sl false (((if okMask L rl w h = true then maskB L rl ⟨0, 0, w, h⟩ h else [])).map intC)) ∧ bs = []
def spMask : VE.Spec := famSpecS spMask_A d_llpt_i_i_i spMask_pre spMask_post 0 false
theorem spMask_q : spMask.flat = false ∧ spMask.mt = [] ∧ spMask.shut = true ∧ spMask.cost = 0 ∧ (∀ a i, spMask.pre a i = (i = [] ∧ famPre d_llpt_i_i_i spMask_A spMask_pre a)) ∧ ∀ a i r b, spMask.post a i r b = (famPost d_llpt_i_i_i spMask_post a r b) := ⟨rfl, rfl, rfl, rfl, fun _ _ => rfl, fun _ _ _ _ => rfl⟩
def spClipI_A : List Int → List AV := fun l => [.c (.own 0 l.length false)]
def spClipI_B : List Int → List Box := fun l => [⟨l.map intC, 1, 3, true, false⟩]
def spClipI_d : List AV → List Box → Option (List Int)
  | [.c (.own 0 _ false)], [⟨es, _, _, _, _⟩] => decAll intCd es
  | _, _ => none
def spClipI_pre : List Int → Prop := fun l => l.length ≤ 1000000000
def spClipI_post : List Int → AV → List Box → Prop := fun l r bs => r = .c (.own 0 (l).length false) ∧ bs = [⟨(l).map intC, 1, 3, true, false⟩]
def spClipI : VE.Spec := famSpecM spClipI_A spClipI_B spClipI_d spClipI_pre spClipI_post 0 false [true] false
theorem spClipI_q : spClipI.flat = false ∧ spClipI.mt = [true] ∧ spClipI.shut = false ∧ spClipI.cost = 0 ∧ (∀ a i, spClipI.pre a i = (famPreM spClipI_d spClipI_A spClipI_B spClipI_pre a i)) ∧ ∀ a i r b, spClipI.post a i r b = (famPostM spClipI_d spClipI_post a i r b) := ⟨rfl, rfl, rfl, rfl, fun _ _ => rfl, fun _ _ _ _ => rfl⟩
end Go.Proofs.Ytdkfamajaopgoaa
end
section
set_option maxRecDepth 100000
set_option linter.unusedSimpArgs false
set_option linter.unusedVariables false
namespace Go.Proofs.Ytdkfamajaopgoaa
open Go Go.VE
def tb112 : Nat → Option VE.Spec := tabOf []
theorem tb112_ok : TabOK Try.prog rt0 tb112 := tabOf_nil
set_option maxHeartbeats 4000000 in
theorem sat_slices_Clip_int_int_0 : Sat Try.prog rt0 112 (wkOut spClipI) := by
  refine fn_sat hm ttok (tab := tb112) tb112_ok Try.func112 (c := Try.f112.body.getD .skip) (by kernel_rfl) (ts := [.tmp 2]) (by kernel_rfl) Try.ntmps112 (sq := fun _ => true) (by kernel_rfl) ?_
  intro args ins pk hpre0 hpk
  obtain ⟨l, rfl, rfl, hpre, hdec⟩ := famPreM_ex hpre0
  clear hpre0 hdec
  try simp only [spClipI_pre] at hpre
  replace hpk : pk + 0 ≤ pickLimit := hpk
  refine ⟨Nat.le_of_ble_eq_true rfl, ?_⟩
  simp (config := { maxSteps := 1000000 }) only [go_sem, ↓ifP_true, ↓ifP_false, ↓ifP_not, Nat.reduceLT, Nat.reduceAdd, Nat.reduceBEq, Nat.reduceSub, Nat.reduceLeDiff, Nat.reduceEqDiff, Nat.reduceMul, Int.reduceToNat, Int.reduceEq, Int.reduceLT, Int.reduceLE, Int.reduceAdd, Int.reduceSub, Int.reduceMul, reduceCtorEq, cond_true, cond_false, forall_eq', forall_eq, forall_const, implies_true, if_true, if_false, exists_eq_left', exists_eq', exists_eq, ne_eq, Try.f112, spClipI_q, spClipI_A, spClipI_B, spClipI_d, spClipI_pre, spClipI_post]
  repeat' (first | apply And.intro | (intro hh; first | (have h9 := okL_get hI.ok hh; cases h9) | skip) | omega | assumption | with_reducible rfl)
  all_goals (first | (omega; done))
theorem sat_slices_Clip_int_int : Sat Try.prog rt0 112 (wkIn spClipI) := sat_in (sat_out sat_slices_Clip_int_int_0)
def tb60 : Nat → Option VE.Spec := tabOf [(66, wkIn spCover), (112, wkIn spClipI)]
theorem tb60_66 : tb60 66 = some (wkIn spCover) := rfl
theorem tb60_112 : tb60 112 = some (wkIn spClipI) := rfl
theorem tb60_ok : TabOK Try.prog rt0 tb60 := (tabOf_cons (by kernel_rfl) sat_impl_cover (tabOf_cons (by kernel_rfl) sat_slices_Clip_int_int tabOf_nil))
set_option maxHeartbeats 4000000 in
theorem sat_impl_masked_0 : Sat Try.prog rt0 60 (wkOut spMasked) := by
  refine fn_sat hm ttok (tab := tb60) tb60_ok Try.func60 (c := Try.f60.body.getD .skip) (by kernel_rfl) (ts := [.tmp 6]) (by kernel_rfl) Try.ntmps60 (sq := fun _ => true) (by kernel_rfl) ?_
  intro args ins pk hpre0 hpk
  obtain ⟨rfl, hpre0⟩ := hpre0
  obtain ⟨⟨L, rl, b⟩, rfl, hpre, hdec⟩ := famPre_ex hpre0
  clear hpre0 hdec
  try simp only [spMasked_pre] at hpre
  replace hpk : pk + 0 ≤ pickLimit := hpk
  refine ⟨Nat.le_of_ble_eq_true rfl, ?_⟩
  simp (config := { maxSteps := 1000000 }) only [go_sem, ↓ifP_true, ↓ifP_false, ↓ifP_not, Nat.reduceLT, Nat.reduceAdd, Nat.reduceBEq, Nat.reduceSub, Nat.reduceLeDiff, Nat.reduceEqDiff, Nat.reduceMul, Int.reduceToNat, Int.reduceEq, Int.reduceLT, Int.reduceLE, Int.reduceAdd, Int.reduceSub, Int.reduceMul, reduceCtorEq, cond_true, cond_false, forall_eq', forall_eq, forall_const, implies_true, if_true, if_false, exists_eq_left', exists_eq', exists_eq, ne_eq, Try.f60, tb60_66, tb60_112, spMasked_q, spMasked_A, spMasked_pre, spMasked_post, spCover_q, spCover_A, spCover_pre, spCover_post, spClipI_q, spClipI_A, spClipI_B, spClipI_d, spClipI_pre, spClipI_post]
  repeat' (first | apply And.intro | (intro _) | omega | assumption | with_reducible rfl)
  any_goals
    refine loopS (α := (List Int) × Int) false [2, 3, 4, 7, 8, 9, 10, 11, 12, 13, 14, 15, 16, 17, 18, 19, 20, 21, 22, 23, 24, 25, 26, 27, 28, 29, 30, 31, 32, 33] (fun σ => [gId (σ.get 7)]) (fun σ x => [(7, .c (.own (gId (σ.get 7)) (x.1).length false)), (8, I x.2)]) (fun σ x => [(gId (σ.get 7), some ⟨(x.1).map intC, 1, 3, true, false⟩)]) (fun (o, i) => 0) (fun σ => (gL intCd σ (σ.get 7), gI (σ.get 8))) (fun σ τ => [(gId (σ.get 7), gId (τ.get 7))]) (fun (o, i) => (b.t ≤ i ∧ i ≤ b.b) ∧ o = maskB L rl b i) (fun (o, i) => (b.b - i).toNat) ⟨by (simp (config := { maxSteps := 1000000 }) only [go_sem, ↓ifP_true, ↓ifP_false, ↓ifP_not, Nat.reduceLT, Nat.reduceAdd, Nat.reduceBEq, Nat.reduceSub, Nat.reduceLeDiff, Nat.reduceEqDiff, Nat.reduceMul, Int.reduceToNat, Int.reduceEq, Int.reduceLT, Int.reduceLE, Int.reduceAdd, Int.reduceSub, Int.reduceMul, reduceCtorEq, cond_true, cond_false, forall_eq', forall_eq, forall_const, implies_true, if_true, if_false, exists_eq_left', exists_eq', exists_eq, ne_eq, Try.f60, tb60_66, tb60_112, spMasked_q, spMasked_A, spMasked_pre, spMasked_post, spCover_q, spCover_A, spCover_pre, spCover_post, spClipI_q, spClipI_A, spClipI_B, spClipI_d, spClipI_pre, spClipI_post]; (repeat' (first | apply And.intro | (intro _) | omega | assumption | with_reducible rfl)); all_goals (first | exact (maskB_0 _ _ _).symm)), ?_⟩
    rintro ⟨o, i⟩ hinv
    try dsimp only at hinv
    simp (config := { maxSteps := 1000000 }) only [go_sem, ↓ifP_true, ↓ifP_false, ↓ifP_not, Nat.reduceLT, Nat.reduceAdd, Nat.reduceBEq, Nat.reduceSub, Nat.reduceLeDiff, Nat.reduceEqDiff, Nat.reduceMul, Int.reduceToNat, Int.reduceEq, Int.reduceLT, Int.reduceLE, Int.reduceAdd, Int.reduceSub, Int.reduceMul, reduceCtorEq, cond_true, cond_false, forall_eq', forall_eq, forall_const, implies_true, if_true, if_false, exists_eq_left', exists_eq', exists_eq, ne_eq, Try.f60, tb60_66, tb60_112, spMasked_q, spMasked_A, spMasked_pre, spMasked_post, spCover_q, spCover_A, spCover_pre, spCover_post, spClipI_q, spClipI_A, spClipI_B, spClipI_d, spClipI_pre, spClipI_post]
    have hl := maskB_len L rl b i
    have hm := mask_small (m := (i - b.t).toNat) (n := (b.r - b.l).toNat) (by omega) (by omega)
    rw [← hinv.2] at hl
    repeat' (first | apply And.intro | (intro _) | omega | assumption | with_reducible rfl)
  
  any_goals
    have hI := hinv.2
    rw [hI] at hl
    refine loopS (α := (List Int) × Int) false [2, 3, 4, 7, 9, 10, 11, 12, 13, 14, 15, 16, 17, 18, 19, 20, 21, 22, 23, 24, 25, 26, 27, 28, 29, 30, 31, 32, 33] (fun σ => [gId (σ.get 7)]) (fun σ x => [(7, .c (.own (gId (σ.get 7)) (x.1).length false)), (9, I x.2)]) (fun σ x => [(gId (σ.get 7), some ⟨(x.1).map intC, 1, 3, true, false⟩)]) (fun (o, k) => 0) (fun σ => (gL intCd σ (σ.get 7), gI (σ.get 9))) (fun σ τ => [(gId (σ.get 7), gId (τ.get 7))]) (fun (o, k) => (b.l ≤ k ∧ k ≤ b.r) ∧ o = maskB L rl b i ++ maskRow L rl b.l k i) (fun (o, k) => (b.r - k).toNat) ⟨by (simp (config := { maxSteps := 1000000 }) only [go_sem, ↓ifP_true, ↓ifP_false, ↓ifP_not, Nat.reduceLT, Nat.reduceAdd, Nat.reduceBEq, Nat.reduceSub, Nat.reduceLeDiff, Nat.reduceEqDiff, Nat.reduceMul, Int.reduceToNat, Int.reduceEq, Int.reduceLT, Int.reduceLE, Int.reduceAdd, Int.reduceSub, Int.reduceMul, reduceCtorEq, cond_true, cond_false, forall_eq', forall_eq, forall_const, implies_true, if_true, if_false, exists_eq_left', exists_eq', exists_eq, ne_eq, Try.f60, tb60_66, tb60_112, spMasked_q, spMasked_A, spMasked_pre, spMasked_post, spCover_q, spCover_A, spCover_pre, spCover_post, spClipI_q, spClipI_A, spClipI_B, spClipI_d, spClipI_pre, spClipI_post]; (repeat' (first | apply And.intro | (intro _) | omega | assumption | with_reducible rfl)); all_goals (first | (rw [maskRow_0, List.append_nil]; exact hinv.2))), ?_⟩
    rintro ⟨o, k⟩ hinv
    try dsimp only at hinv
    simp (config := { maxSteps := 1000000 }) only [go_sem, ↓ifP_true, ↓ifP_false, ↓ifP_not, Nat.reduceLT, Nat.reduceAdd, Nat.reduceBEq, Nat.reduceSub, Nat.reduceLeDiff, Nat.reduceEqDiff, Nat.reduceMul, Int.reduceToNat, Int.reduceEq, Int.reduceLT, Int.reduceLE, Int.reduceAdd, Int.reduceSub, Int.reduceMul, reduceCtorEq, cond_true, cond_false, forall_eq', forall_eq, forall_const, implies_true, if_true, if_false, exists_eq_left', exists_eq', exists_eq, ne_eq, Try.f60, tb60_66, tb60_112, spMasked_q, spMasked_A, spMasked_pre, spMasked_post, spCover_q, spCover_A, spCover_pre, spCover_post, spClipI_q, spClipI_A, spClipI_B, spClipI_d, spClipI_pre, spClipI_post]
    have hl2 : o.length = (maskB L rl b i).length + (k - b.l).toNat := by rw [hinv.2, List.length_append, maskRow_len]
    repeat' (first | apply And.intro | (intro _) | omega | assumption | with_reducible rfl)
  all_goals (first | (omega; done) | (exact hpre.1; done) | ((rw [hinv.2, maskRow_step _ _ _ _ (by omega), List.append_assoc]); done) | ((rw [hinv.2, maskB_step _ _ _ (by omega), show k = b.r by omega]); done) | ((rw [hinv.2, show i = b.b by omega]); done))
theorem sat_impl_masked : Sat Try.prog rt0 60 (wkIn spMasked) := sat_in (sat_out sat_impl_masked_0)
def tb23 : Nat → Option VE.Spec := tabOf [(57, wkIn spVRings), (58, wkIn spRl), (59, wkIn spSzd), (60, wkIn spMasked)]
theorem tb23_57 : tb23 57 = some (wkIn spVRings) := rfl
theorem tb23_58 : tb23 58 = some (wkIn spRl) := rfl
theorem tb23_59 : tb23 59 = some (wkIn spSzd) := rfl
theorem tb23_60 : tb23 60 = some (wkIn spMasked) := rfl
theorem tb23_ok : TabOK Try.prog rt0 tb23 := (tabOf_cons (by kernel_rfl) sat_impl_ValidRings (tabOf_cons (by kernel_rfl) sat_impl_isRule (tabOf_cons (by kernel_rfl) sat_impl_sized (tabOf_cons (by kernel_rfl) sat_impl_masked tabOf_nil))))
set_option maxHeartbeats 4000000 in
theorem sat_impl_MaskOf_0 : Sat Try.prog rt0 23 (wkOut spMask) := by
  refine fn_sat hm ttok (tab := tb23) tb23_ok Try.func23 (c := Try.f23.body.getD .skip) (by kernel_rfl) (ts := [.tmp 8]) (by kernel_rfl) Try.ntmps23 (sq := fun _ => true) (by kernel_rfl) ?_
  intro args ins pk hpre0 hpk
  obtain ⟨rfl, hpre0⟩ := hpre0
  obtain ⟨⟨L, rl, w, h⟩, rfl, hpre, hdec⟩ := famPre_ex hpre0
  clear hpre0 hdec
  try simp only [spMask_pre] at hpre
  replace hpk : pk + 0 ≤ pickLimit := hpk
  refine ⟨Nat.le_of_ble_eq_true rfl, ?_⟩
  simp (config := { maxSteps := 1000000 }) only [go_sem, ↓ifP_true, ↓ifP_false, ↓ifP_not, Nat.reduceLT, Nat.reduceAdd, Nat.reduceBEq, Nat.reduceSub, Nat.reduceLeDiff, Nat.reduceEqDiff, Nat.reduceMul, Int.reduceToNat, Int.reduceEq, Int.reduceLT, Int.reduceLE, Int.reduceAdd, Int.reduceSub, Int.reduceMul, reduceCtorEq, cond_true, cond_false, forall_eq', forall_eq, forall_const, implies_true, if_true, if_false, exists_eq_left', exists_eq', exists_eq, ne_eq, Try.f23, tb23_57, tb23_58, tb23_59, tb23_60, spMask_q, spMask_A, spMask_pre, spMask_post, spVRings_q, spVRings_A, spVRings_pre, spVRings_post, spRl_q, spRl_A, spRl_pre, spRl_post, spSzd_q, spSzd_A, spSzd_pre, spSzd_post, spMasked_q, spMasked_A, spMasked_pre, spMasked_post]
  repeat' (first | apply And.intro | (intro _) | omega | assumption | with_reducible rfl)
  all_goals (first | ((have h9 := szd_rng ‹szd w h = true›; (try dsimp only); omega); done) | ((rw [if_pos (by rw [okMask, ‹vRings L = true›, ‹isRl rl = true›, ‹szd w h = true›]; rfl)]); done) | ((rw [if_neg (by rw [okMask, ‹vRings L = false›]; simp)]; rfl); done) | ((rw [if_neg (by rw [okMask, ‹isRl rl = false›]; simp)]; rfl); done) | ((rw [if_neg (by rw [okMask, ‹szd w h = false›]; simp)]; rfl); done) | (omega; done))
theorem sat_impl_MaskOf : Sat Try.prog rt0 23 (wkIn spMask) := sat_in (sat_out sat_impl_MaskOf_0)
end Go.Proofs.Ytdkfamajaopgoaa
end
section
set_option maxRecDepth 100000
set_option linter.unusedSimpArgs false
set_option linter.unusedVariables false
namespace Go.Proofs.Ytdkfamajaopgoaa
open Go Go.VE
def tb25 : Nat → Option VE.Spec := tabOf [(61, wkIn spVRings), (62, wkIn spIn), (63, wkIn spSzd), (64, wkIn spCover)]
theorem tb25_61 : tb25 61 = some (wkIn spVRings) := rfl
theorem tb25_62 : tb25 62 = some (wkIn spIn) := rfl
theorem tb25_63 : tb25 63 = some (wkIn spSzd) := rfl
theorem tb25_64 : tb25 64 = some (wkIn spCover) := rfl
theorem tb25_ok : TabOK Try.prog rt0 tb25 := (tabOf_cons (by kernel_rfl) sat_spec_validRings (tabOf_cons (by kernel_rfl) sat_spec_inRange (tabOf_cons (by kernel_rfl) sat_spec_validSize (tabOf_cons (by kernel_rfl) sat_spec_cover tabOf_nil))))
set_option maxHeartbeats 4000000 in
theorem sat_spec_MaskOf_0 : Sat Try.prog rt0 25 (wkOut spMask) := by
  refine fn_sat hm ttok (tab := tb25) tb25_ok Try.func25 (c := Try.f25.body.getD .skip) (by kernel_rfl) (ts := [.tmp 8]) (by kernel_rfl) Try.ntmps25 (sq := fun _ => true) (by kernel_rfl) ?_
  intro args ins pk hpre0 hpk
  obtain ⟨rfl, hpre0⟩ := hpre0
  obtain ⟨⟨L, rl, w, h⟩, rfl, hpre, hdec⟩ := famPre_ex hpre0
  clear hpre0 hdec
  try simp only [spMask_pre] at hpre
  replace hpk : pk + 0 ≤ pickLimit := hpk
  refine ⟨Nat.le_of_ble_eq_true rfl, ?_⟩
  simp (config := { maxSteps := 1000000 }) only [go_sem, ↓ifP_true, ↓ifP_false, ↓ifP_not, Nat.reduceLT, Nat.reduceAdd, Nat.reduceBEq, Nat.reduceSub, Nat.reduceLeDiff, Nat.reduceEqDiff, Nat.reduceMul, Int.reduceToNat, Int.reduceEq, Int.reduceLT, Int.reduceLE, Int.reduceAdd, Int.reduceSub, Int.reduceMul, reduceCtorEq, cond_true, cond_false, forall_eq', forall_eq, forall_const, implies_true, if_true, if_false, exists_eq_left', exists_eq', exists_eq, ne_eq, Try.f25, tb25_61, tb25_62, tb25_63, tb25_64, spMask_q, spMask_A, spMask_pre, spMask_post, spVRings_q, spVRings_A, spVRings_pre, spVRings_post, spIn_q, spIn_A, spIn_pre, spIn_post, spSzd_q, spSzd_A, spSzd_pre, spSzd_post, spCover_q, spCover_A, spCover_pre, spCover_post]
  repeat' (first | apply And.intro | (intro _) | omega | assumption | with_reducible rfl)
  all_goals try (have hs := szd_rng ‹szd w h = true›)
  any_goals
    refine loopS (α := (List Int) × Int) false [4, 5, 6, 7, 9, 10, 11, 12, 13, 14, 15, 16, 17, 18, 19, 20, 21, 22, 23, 24, 25, 26, 27, 28, 29, 30, 31, 32, 33, 34, 35, 36, 37, 38, 39, 40, 41, 42, 43, 44] (fun σ => [gId (σ.get 9)]) (fun σ x => [(9, .c (.own (gId (σ.get 9)) (x.1).length false)), (10, I x.2)]) (fun σ x => [(gId (σ.get 9), some ⟨(x.1).map intC, 1, 3, true, false⟩)]) (fun (o, i) => 0) (fun σ => (gL intCd σ (σ.get 9), gI (σ.get 10))) (fun σ τ => [(gId (σ.get 9), gId (τ.get 9))]) (fun (o, i) => (0 ≤ i ∧ i ≤ h) ∧ o = maskB L rl ⟨0, 0, w, h⟩ i) (fun (o, i) => (h - i).toNat) ⟨by (simp (config := { maxSteps := 1000000 }) only [go_sem, ↓ifP_true, ↓ifP_false, ↓ifP_not, Nat.reduceLT, Nat.reduceAdd, Nat.reduceBEq, Nat.reduceSub, Nat.reduceLeDiff, Nat.reduceEqDiff, Nat.reduceMul, Int.reduceToNat, Int.reduceEq, Int.reduceLT, Int.reduceLE, Int.reduceAdd, Int.reduceSub, Int.reduceMul, reduceCtorEq, cond_true, cond_false, forall_eq', forall_eq, forall_const, implies_true, if_true, if_false, exists_eq_left', exists_eq', exists_eq, ne_eq, Try.f25, tb25_61, tb25_62, tb25_63, tb25_64, spMask_q, spMask_A, spMask_pre, spMask_post, spVRings_q, spVRings_A, spVRings_pre, spVRings_post, spIn_q, spIn_A, spIn_pre, spIn_post, spSzd_q, spSzd_A, spSzd_pre, spSzd_post, spCover_q, spCover_A, spCover_pre, spCover_post]; (repeat' (first | apply And.intro | (intro _) | omega | assumption | with_reducible rfl)); all_goals (first | omega | exact (maskB_0 L rl ⟨0, 0, w, h⟩).symm)), ?_⟩
    rintro ⟨o, i⟩ hinv
    try dsimp only at hinv
    simp (config := { maxSteps := 1000000 }) only [go_sem, ↓ifP_true, ↓ifP_false, ↓ifP_not, Nat.reduceLT, Nat.reduceAdd, Nat.reduceBEq, Nat.reduceSub, Nat.reduceLeDiff, Nat.reduceEqDiff, Nat.reduceMul, Int.reduceToNat, Int.reduceEq, Int.reduceLT, Int.reduceLE, Int.reduceAdd, Int.reduceSub, Int.reduceMul, reduceCtorEq, cond_true, cond_false, forall_eq', forall_eq, forall_const, implies_true, if_true, if_false, exists_eq_left', exists_eq', exists_eq, ne_eq, Try.f25, tb25_61, tb25_62, tb25_63, tb25_64, spMask_q, spMask_A, spMask_pre, spMask_post, spVRings_q, spVRings_A, spVRings_pre, spVRings_post, spIn_q, spIn_A, spIn_pre, spIn_post, spSzd_q, spSzd_A, spSzd_pre, spSzd_post, spCover_q, spCover_A, spCover_pre, spCover_post]
    have hl := maskB_len L rl ⟨0, 0, w, h⟩ i
    have hm := mask_small (m := (i - 0).toNat) (n := (w - 0).toNat) (by omega) (by omega)
    rw [← hinv.2] at hl
    dsimp only at hl
    repeat' (first | apply And.intro | (intro _) | omega | assumption | with_reducible rfl)
  
  any_goals
    have hI := hinv.2
    rw [hI] at hl
    refine loopS (α := (List Int) × Int) false [4, 5, 6, 7, 9, 11, 12, 13, 14, 15, 16, 17, 18, 19, 20, 21, 22, 23, 24, 25, 26, 27, 28, 29, 30, 31, 32, 33, 34, 35, 36, 37, 38, 39, 40, 41, 42, 43, 44] (fun σ => [gId (σ.get 9)]) (fun σ x => [(9, .c (.own (gId (σ.get 9)) (x.1).length false)), (11, I x.2)]) (fun σ x => [(gId (σ.get 9), some ⟨(x.1).map intC, 1, 3, true, false⟩)]) (fun (o, k) => 0) (fun σ => (gL intCd σ (σ.get 9), gI (σ.get 11))) (fun σ τ => [(gId (σ.get 9), gId (τ.get 9))]) (fun (o, k) => (0 ≤ k ∧ k ≤ w) ∧ o = maskB L rl ⟨0, 0, w, h⟩ i ++ maskRow L rl 0 k i) (fun (o, k) => (w - k).toNat) ⟨by (simp (config := { maxSteps := 1000000 }) only [go_sem, ↓ifP_true, ↓ifP_false, ↓ifP_not, Nat.reduceLT, Nat.reduceAdd, Nat.reduceBEq, Nat.reduceSub, Nat.reduceLeDiff, Nat.reduceEqDiff, Nat.reduceMul, Int.reduceToNat, Int.reduceEq, Int.reduceLT, Int.reduceLE, Int.reduceAdd, Int.reduceSub, Int.reduceMul, reduceCtorEq, cond_true, cond_false, forall_eq', forall_eq, forall_const, implies_true, if_true, if_false, exists_eq_left', exists_eq', exists_eq, ne_eq, Try.f25, tb25_61, tb25_62, tb25_63, tb25_64, spMask_q, spMask_A, spMask_pre, spMask_post, spVRings_q, spVRings_A, spVRings_pre, spVRings_post, spIn_q, spIn_A, spIn_pre, spIn_post, spSzd_q, spSzd_A, spSzd_pre, spSzd_post, spCover_q, spCover_A, spCover_pre, spCover_post]; (repeat' (first | apply And.intro | (intro _) | omega | assumption | with_reducible rfl)); all_goals (first | omega | (rw [maskRow_0, List.append_nil]; exact hinv.2))), ?_⟩
    rintro ⟨o, k⟩ hinv
    try dsimp only at hinv
    simp (config := { maxSteps := 1000000 }) only [go_sem, ↓ifP_true, ↓ifP_false, ↓ifP_not, Nat.reduceLT, Nat.reduceAdd, Nat.reduceBEq, Nat.reduceSub, Nat.reduceLeDiff, Nat.reduceEqDiff, Nat.reduceMul, Int.reduceToNat, Int.reduceEq, Int.reduceLT, Int.reduceLE, Int.reduceAdd, Int.reduceSub, Int.reduceMul, reduceCtorEq, cond_true, cond_false, forall_eq', forall_eq, forall_const, implies_true, if_true, if_false, exists_eq_left', exists_eq', exists_eq, ne_eq, Try.f25, tb25_61, tb25_62, tb25_63, tb25_64, spMask_q, spMask_A, spMask_pre, spMask_post, spVRings_q, spVRings_A, spVRings_pre, spVRings_post, spIn_q, spIn_A, spIn_pre, spIn_post, spSzd_q, spSzd_A, spSzd_pre, spSzd_post, spCover_q, spCover_A, spCover_pre, spCover_post]
    have hl2 : o.length = (maskB L rl ⟨0, 0, w, h⟩ i).length + (k - 0).toNat := by rw [hinv.2, List.length_append, maskRow_len]
    repeat' (first | apply And.intro | (intro _) | omega | assumption | with_reducible rfl)
  all_goals (first | (omega; done) | ((rw [hinv.2, maskRow_step _ _ _ _ (by omega), List.append_assoc]); done) | ((rw [hinv.2, maskB_step _ _ ⟨0, 0, w, h⟩ (by show (0 : Int) ≤ i; omega), show k = w by omega]); done) | ((rw [if_pos (by rw [okMask, ‹vRings L = true›, ‹szd w h = true›]; simp only [isRl, Bool.true_and, Bool.and_true, decide_eq_true_eq]; omega), hinv.2, show i = h by omega]); done) | ((rw [if_neg (by rw [okMask, ‹vRings L = false›]; simp)]; rfl); done) | ((rw [if_neg (by rw [okMask, ‹szd w h = false›]; simp)]; rfl); done) | ((rw [if_neg (by simp only [okMask, isRl, Bool.and_eq_true, decide_eq_true_eq]; omega)]; rfl); done))
theorem sat_spec_MaskOf : Sat Try.prog rt0 25 (wkIn spMask) := sat_in (sat_out sat_spec_MaskOf_0)
end Go.Proofs.Ytdkfamajaopgoaa
end
