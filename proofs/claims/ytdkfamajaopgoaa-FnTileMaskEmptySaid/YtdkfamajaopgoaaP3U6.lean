/- Contracts of functions of the program vectorraster, each proved for all states that fit its description. No conditions. -/
import Derived.Test.YtdkfamajaopgoaaPN
import Derived.Test.YtdkfamajaopgoaaPJ
import Derived.Test.YtdkfamajaopgoaaP3L1
import Derived.Test.YtdkfamajaopgoaaP3KD
set_option maxRecDepth 100000
set_option linter.unusedSimpArgs false
set_option linter.unusedVariables false
namespace Go.Proofs.Ytdkfamajaopgoaa
open Go Go.VE
def bdV (L : List (List Pt)) (c r : Int) : Int := if (vRings L && decide (0 ≤ c ∧ c ≤ 12) && decide (0 ≤ r ∧ r ≤ 47)) = true then wind L (16 * c - 1) (2 + 4 * r) else 0
theorem bdV_eq {L : List (List Pt)} {c r : Int} (hv : vRings L = true) (h1 : 0 ≤ c ∧ c ≤ 12) (h2 : 0 ≤ r ∧ r ≤ 47) : bdV L c r = wind L (16 * c - 1) (2 + 4 * r) := by
  rw [bdV, if_pos (by rw [hv, decide_eq_true h1, decide_eq_true h2]; rfl)]
def bin4 (L : List (List Pt)) (l rl r : Int) (j : Nat) : Int := if insN (wind L (16 * l - 1) (smp r j)) rl = true then 4 else 0
theorem bin4_bd (L : List (List Pt)) (l rl r : Int) (n : Nat) : 0 ≤ sumN (bin4 L l rl r) n ∧ sumN (bin4 L l rl r) n ≤ 4 * n := sumN_bd (fun j => by unfold bin4; split <;> omega) n
theorem cov_empty {L : List (List Pt)} {b : Bx} {rl c r : Int} (he : touchE L b = []) (c0 : b.l ≤ c) (c1 : c < b.r) (w0 : b.t ≤ r) (w1 : r < b.b) : cov L rl c r = sumN (bin4 L b.l rl r) 4 := by
  have e : ∀ i k : Nat, i < 4 → k < 4 → ins1 L rl (smp c k) (smp r i) = if insN (wind L (16 * b.l - 1) (smp r i)) rl = true then 1 else 0 := by
    intro i k hi hk
    have h := tin_tile (L := L) (rl := rl) c0 c1 w0 w1 hi hk
    rw [← h, tin, he, backs_get L b.l r hi]
    have hd : dif [] (smp c k) (16 * b.l - 1) (smp r i) = 0 := rfl
    rw [hd, Int.add_zero]
  rw [← cov_turn]
  simp only [sumN, bin4]
  simp only [e 0 _ (by decide), e 1 _ (by decide), e 2 _ (by decide), e 3 _ (by decide), Nat.zero_lt_succ, Nat.reduceLT]
  repeat' split
  all_goals omega
theorem touch_none {L : List (List Pt)} {rl w h t : Int} (H : okTm L rl w h t = true) (he : ¬ 0 < ((if edOk L w h t = true then touchE L (tbox w h t) else []).length : Int)) : touchE L (tbox w h t) = [] := by
  obtain ⟨h1, h2, h3⟩ := okTm_iff.1 H
  rw [if_pos (by rw [edOk, h1, h3]; rfl)] at he
  exact List.eq_nil_of_length_eq_zero (by omega)
theorem tm_cov2 {L : List (List Pt)} {rl w h t i m : Int} (H : okTm L rl w h t = true) (he : touchE L (tbox w h t) = []) (h0 : 0 ≤ i) (hi : i < ((tmV L rl w h t).length : Int)) (hk : (tmV L rl w h t)[i.toNat]? = some m) :
    m = sumN (bin4 L (tbox w h t).l rl ((tbox w h t).t + i.tdiv ((tbox w h t).r - (tbox w h t).l))) 4 ∧ (tbox w h t).t + i.tdiv ((tbox w h t).r - (tbox w h t).l) < (tbox w h t).b := by
  obtain ⟨k1, k2, h1⟩ := okTm_iff.1 H
  have hp := tbox_pos h1
  have hx := tbox_rng h1
  have hc := tm_cov H h0 hi hk
  rw [tmV_len H] at hi
  have hd := div_rng (w := (tbox w h t).r - (tbox w h t).l) (h := (tbox w h t).b - (tbox w h t).t) (by omega) h0 hi
  rw [Int.tmod_eq_emod_of_nonneg h0, Int.tdiv_eq_ediv_of_nonneg h0, if_pos (okCov_iff.2 ⟨k1, k2, by omega, by omega⟩), cov_empty he (by omega) (by omega) (by omega) (by omega)] at hc
  rw [Int.tdiv_eq_ediv_of_nonneg h0]
  exact ⟨hc, by omega⟩
theorem emp_bin {L : List (List Pt)} {l rl R k : Int} (hv : vRings L = true) (hl : 0 ≤ l ∧ l ≤ 12) (hR : 0 ≤ R ∧ R ≤ 11) (hk : 0 ≤ k ∧ k ≤ 4) (h4 : k < 4) : bin4 L l rl R k.toNat = if insN (bdV L l (4 * R + k)) rl = true then 4 else 0 := by
  have e : smp R k.toNat = 2 + 4 * (4 * R + k) := by unfold smp; omega
  rw [bin4, bdV_eq hv hl (by omega), e]
theorem emp_0 {L : List (List Pt)} {l rl R k n : Int} (hv : vRings L = true) (hl : 0 ≤ l ∧ l ≤ 12) (hR : 0 ≤ R ∧ R ≤ 11) (hk : 0 ≤ k ∧ k ≤ 4) (h4 : k < 4) (hn : n = sumN (bin4 L l rl R) k.toNat) (hf : insN (bdV L l (4 * R + k)) rl = false) : n = sumN (bin4 L l rl R) (k + 1).toNat := by
  rw [sumN_step _ hk.1, emp_bin hv hl hR hk h4, hf, hn]; simp
theorem emp_4 {L : List (List Pt)} {l rl R k n : Int} (hv : vRings L = true) (hl : 0 ≤ l ∧ l ≤ 12) (hR : 0 ≤ R ∧ R ≤ 11) (hk : 0 ≤ k ∧ k ≤ 4) (h4 : k < 4) (hn : n = sumN (bin4 L l rl R) k.toNat) (hf : insN (bdV L l (4 * R + k)) rl = true) : n + 4 = sumN (bin4 L l rl R) (k + 1).toNat := by
  rw [sumN_step _ hk.1, emp_bin hv hl hR hk h4, hf, hn]; simp
theorem i00 {w rl : Int} (h : rl = 0) (hw : w = 0) : insN w rl = false := by rw [h, insN_any, hw]; rfl
theorem i01 {w rl : Int} (h : rl = 0) (hw : ¬ w = 0) : insN w rl = true := by rw [h, insN_any, decide_eq_false hw]; rfl
theorem i10 {w rl : Int} (h : rl = 1) (hw : w.tmod 2 = 0) : insN w rl = false := by rw [h, insN_even, decide_eq_true hw]; rfl
theorem i11 {w rl : Int} (h : rl = 1) (hw : ¬ w.tmod 2 = 0) : insN w rl = true := by rw [h, insN_even, decide_eq_false hw]; rfl
theorem isRl_no {rl : Int} (h : isRl rl = true) (h0 : ¬ rl = 0) (h1 : ¬ rl = 1) : False := by
  simp only [isRl, decide_eq_true_eq] at h; omega
def spRow2_A : Int → List AV
  | n => [I n]
def spRow2_pre : Int → Prop
  | n => True
def spRow2_post : Int → AV → List Box → Prop
  | n, r, bs => r = B (decide (0 ≤ n ∧ n ≤ 47)) ∧ bs = []
def spRow2 : VE.Spec := famSpec spRow2_A d_i spRow2_pre spRow2_post 0 true
theorem spRow2_q : spRow2.flat = true ∧ spRow2.mt = [] ∧ spRow2.shut = false ∧ spRow2.cost = 0 ∧ (∀ a i, spRow2.pre a i = (i = [] ∧ famPre d_i spRow2_A spRow2_pre a)) ∧ ∀ a i r b, spRow2.post a i r b = (famPost d_i spRow2_post a r b) := ⟨rfl, rfl, rfl, rfl, fun _ _ => rfl, fun _ _ _ _ => rfl⟩
def spBdOf_A : (List (List Pt)) × Int × Int → List AV
  | (L, c, q) => [.c (.sl false (L.map lptC)), I c, I q]
def spBdOf_pre : (List (List Pt)) × Int × Int → Prop
  | (L, c, q) => L.length ≤ 1000000000 ∧ total L ≤ 1000000000
def spBdOf_post : (List (List Pt)) × Int × Int → AV → List Box → Prop
  | (L, c, q), r, bs => r = I (bdV L c q) ∧ bs = []
def spBdOf : VE.Spec := famSpec spBdOf_A d_llpt_i_i spBdOf_pre spBdOf_post 0 true
theorem spBdOf_q : spBdOf.flat = true ∧ spBdOf.mt = [] ∧ spBdOf.shut = false ∧ spBdOf.cost = 0 ∧ (∀ a i, spBdOf.pre a i = (i = [] ∧ famPre d_llpt_i_i spBdOf_A spBdOf_pre a)) ∧ ∀ a i r b, spBdOf.post a i r b = (famPost d_llpt_i_i spBdOf_post a r b) := ⟨rfl, rfl, rfl, rfl, fun _ _ => rfl, fun _ _ _ _ => rfl⟩
end Go.Proofs.Ytdkfamajaopgoaa
