/- Contracts of functions of the program vectorraster, each proved for all states that fit its description. No conditions. -/
import Derived.Test.YtdkfamajaopgoaaPM
import Derived.Test.YtdkfamajaopgoaaPJ
import Derived.Test.YtdkfamajaopgoaaPF
import Derived.Test.YtdkfamajaopgoaaPL
import Derived.Test.YtdkfamajaopgoaaPG
set_option linter.unusedSimpArgs false
set_option linter.unusedVariables false
section
set_option maxRecDepth 100000
set_option linter.unusedSimpArgs false
set_option linter.unusedVariables false
namespace Go.Proofs.Ytdkfamajaopgoaa
open Go Go.VE
def d_led_li_i_i_i_i : List AV → Option ((List Edge) × (List Int) × Int × Int × Int × Int)
  | [.c (.sl _ a0), .c (.sl _ a1), .c (.v (.int .i64 a2)), .c (.v (.int .i64 a3)), .c (.v (.int .i64 a4)), .c (.v (.int .i64 a5))] => match decAll edCd a0, decAll intCd a1 with
    | some a0v, some a1v => some (a0v, a1v, a2, a3, a4, a5)
    | _, _ => none
  | _ => none
def d_llpt_i_i_i_i : List AV → Option ((List (List Pt)) × Int × Int × Int × Int)
  | [.c (.sl _ a0), .c (.v (.int .i64 a1)), .c (.v (.int .i64 a2)), .c (.v (.int .i64 a3)), .c (.v (.int .i64 a4))] => match decAll lptCd a0 with
    | some a0v => some (a0v, a1, a2, a3, a4)
    | _ => none
  | _ => none
attribute [go_sem] d_led_li_i_i_i_i d_llpt_i_i_i_i
end Go.Proofs.Ytdkfamajaopgoaa
end
section
set_option maxRecDepth 100000
set_option linter.unusedSimpArgs false
set_option linter.unusedVariables false
namespace Go.Proofs.Ytdkfamajaopgoaa
open Go Go.VE
theorem left_in {e : Edge} {x y : Int} (hs : stepE e y ≠ 0) (h1 : e.p.x ≤ x) (h2 : e.q.x ≤ x) : leftE e x y = true := by
  unfold leftE
  rw [decide_eq_true_eq]
  unfold stepE at hs
  split
  · rename_i hd
    have hy : e.q.y ≤ y ∧ y < e.p.y := by
      split at hs
      · omega
      · split at hs
        · assumption
        · exact absurd rfl hs
    have a := Int.mul_le_mul_of_nonneg_right (show x - e.q.x ≥ 0 by omega) (show 0 ≤ e.p.y - y by omega)
    have b := Int.mul_nonneg (show 0 ≤ x - e.q.x by omega) (show 0 ≤ e.p.y - y by omega)
    have c := Int.mul_nonneg (show 0 ≤ x - e.p.x by omega) (show 0 ≤ y - e.q.y by omega)
    have k : -((e.q.x - e.p.x) * (y - e.p.y) - (x - e.p.x) * (e.q.y - e.p.y)) = -((x - e.q.x) * (e.p.y - y)) - (x - e.p.x) * (y - e.q.y) := by grind
    rw [k]; omega
  · rename_i hd
    have hy : e.p.y ≤ y ∧ y < e.q.y := by
      split at hs
      · assumption
      · split at hs
        · omega
        · exact absurd rfl hs
    have b := Int.mul_nonneg (show 0 ≤ x - e.q.x by omega) (show 0 ≤ y - e.p.y by omega)
    have c := Int.mul_nonneg (show 0 ≤ x - e.p.x by omega) (show 0 ≤ e.q.y - y by omega)
    have k : (e.q.x - e.p.x) * (y - e.p.y) - (x - e.p.x) * (e.q.y - e.p.y) = -((x - e.q.x) * (y - e.p.y)) - (x - e.p.x) * (e.q.y - y) := by grind
    rw [k]; omega
theorem left_out {e : Edge} {x y : Int} (hs : stepE e y ≠ 0) (h1 : x < e.p.x) (h2 : x < e.q.x) : leftE e x y = false := by
  unfold leftE
  rw [decide_eq_false_iff_not]
  unfold stepE at hs
  split
  · rename_i hd
    have hy : e.q.y ≤ y ∧ y < e.p.y := by
      split at hs
      · omega
      · split at hs
        · assumption
        · exact absurd rfl hs
    have b := Int.mul_pos (show 0 < e.q.x - x by omega) (show 0 < e.p.y - y by omega)
    have c := Int.mul_nonneg (show 0 ≤ e.p.x - x by omega) (show 0 ≤ y - e.q.y by omega)
    have k : -((e.q.x - e.p.x) * (y - e.p.y) - (x - e.p.x) * (e.q.y - e.p.y)) = (e.q.x - x) * (e.p.y - y) + (e.p.x - x) * (y - e.q.y) := by grind
    rw [k]; omega
  · rename_i hd
    have hy : e.p.y ≤ y ∧ y < e.q.y := by
      split at hs
      · assumption
      · split at hs
        · omega
        · exact absurd rfl hs
    have b := Int.mul_nonneg (show 0 ≤ e.q.x - x by omega) (show 0 ≤ y - e.p.y by omega)
    have c := Int.mul_pos (show 0 < e.p.x - x by omega) (show 0 < e.q.y - y by omega)
    have k : (e.q.x - e.p.x) * (y - e.p.y) - (x - e.p.x) * (e.q.y - e.p.y) = (e.q.x - x) * (y - e.p.y) + (e.p.x - x) * (e.q.y - y) := by grind
    rw [k]; omega
theorem con_tile {e : Edge} {b : Bx} {x y : Int} (h : hits b e = false) (x0 : 16 * b.l ≤ x) (x1 : x < 16 * b.r) (y0 : 16 * b.t < y) (y1 : y < 16 * b.b) : con e x y = con e (16 * b.l - 1) y := by
  by_cases hs : stepE e y = 0
  · rw [con_0 hs, con_0 hs]
  · simp only [hits, decide_eq_false_iff_not] at h
    have hy : e.p.y ≠ e.q.y ∧ y < max e.p.y e.q.y ∧ min e.p.y e.q.y ≤ y := by
      unfold stepE at hs
      split at hs
      · omega
      · split at hs
        · omega
        · exact absurd rfl hs
    by_cases hx : max e.p.x e.q.x < 16 * b.l
    · rw [con_yes (left_in hs (by omega) (by omega)), con_yes (left_in hs (by omega) (by omega))]
    · have hx2 : 16 * b.r ≤ min e.p.x e.q.x := by omega
      rw [con_no (left_out hs (by omega) (by omega)), con_no (left_out hs (by omega) (by omega))]
theorem wind_tile (L : List (List Pt)) {b : Bx} {x y : Int} (x0 : 16 * b.l ≤ x) (x1 : x < 16 * b.r) (y0 : 16 * b.t < y) (y1 : y < 16 * b.b) : wind L (16 * b.l - 1) y + (windE (touchE L b) x y - windE (touchE L b) (16 * b.l - 1) y) = wind L x y := by
  unfold wind touchE
  induction edgesOf L with
  | nil => rfl
  | cons e l ih =>
    by_cases h : hits b e = true
    · rw [List.filter_cons_of_pos h]
      simp only [windE, List.map_cons, List.sum_cons] at *
      omega
    · have hh : hits b e = false := by simpa using h
      have hc := con_tile hh x0 x1 y0 y1
      rw [List.filter_cons_of_neg h]
      simp only [windE, List.map_cons, List.sum_cons] at *
      omega
def dif (es : List Edge) (x z y : Int) : Int := windE es x y - windE es z y
theorem dif_step {es : List Edge} {i : Int} {e : Edge} (hk : es[i.toNat]? = some e) (h0 : 0 ≤ i) (x z y : Int) : dif (es.take (i + 1).toNat) x z y = dif (es.take i.toNat) x z y + con e x y - con e z y := by
  rw [takeN hk h0]; unfold dif
  rw [windE_snoc, windE_snoc]; omega
theorem dif_bd (es : List Edge) (i : Int) (x z y : Int) (h : es.length ≤ 200) : -400 ≤ dif (es.take i.toNat) x z y ∧ dif (es.take i.toNat) x z y ≤ 400 := by
  have h1 := windE_bd (es.take i.toNat) x y
  have h2 := windE_bd (es.take i.toNat) z y
  rw [List.length_take] at h1 h2
  unfold dif; omega
def tin (es : List Edge) (bk : List Int) (l rl c w : Int) (i k : Nat) : Int := if insN (bk.getD i 0 + dif es (smp c k) (16 * l - 1) (smp w i)) rl = true then 1 else 0
def tcov (es : List Edge) (bk : List Int) (l rl c w : Int) : Int := sumN (fun i => sumN (fun k => tin es bk l rl c w i k) 4) 4
theorem tin_bd (es : List Edge) (bk : List Int) (l rl c w : Int) (i k : Nat) : 0 ≤ tin es bk l rl c w i k ∧ tin es bk l rl c w i k ≤ 1 := by unfold tin; split <;> omega
theorem trow_bd (es : List Edge) (bk : List Int) (l rl c w : Int) (i n : Nat) : 0 ≤ sumN (fun k => tin es bk l rl c w i k) n ∧ sumN (fun k => tin es bk l rl c w i k) n ≤ n := by
  have := sumN_bd (f := fun k => tin es bk l rl c w i k) (m := 1) (fun k => tin_bd _ _ _ _ _ _ _ _) n
  omega
theorem tcov_bd (es : List Edge) (bk : List Int) (l rl c w : Int) (n : Nat) : 0 ≤ sumN (fun i => sumN (fun k => tin es bk l rl c w i k) 4) n ∧ sumN (fun i => sumN (fun k => tin es bk l rl c w i k) 4) n ≤ 4 * n :=
  sumN_bd (fun i => by have := trow_bd es bk l rl c w i 4; omega) n
theorem tin_eq {es : List Edge} {bk : List Int} {l rl c w i k b0 z : Int} (hb : bk[i.toNat]? = some b0) (h0 : 0 ≤ i) (hk : 0 ≤ k) (hz : z = b0 + dif es (16 * c + 4 * k + 2) (16 * l - 1) (16 * w + 4 * i + 2)) : tin es bk l rl c w i.toNat k.toNat = if insN z rl = true then 1 else 0 := by
  have e1 : smp c k.toNat = 16 * c + 4 * k + 2 := by unfold smp; omega
  have e2 : smp w i.toNat = 16 * w + 4 * i + 2 := by unfold smp; omega
  unfold tin
  rw [List.getD_eq_getElem?_getD, hb, e1, e2, hz]; rfl
theorem tc_step {es : List Edge} {i b0 z x zz y : Int} {d : Edge} (hk : es[i.toNat]? = some d) (h0 : 0 ≤ i) (hz : z = b0 + dif (es.take i.toNat) x zz y) : z + con ⟨d.p, d.q⟩ x y - con ⟨d.p, d.q⟩ zz y = b0 + dif (es.take (i + 1).toNat) x zz y := by
  rw [dif_step hk h0, hz]
  show b0 + _ + con d x y - con d zz y = _
  omega
theorem tc_end {es : List Edge} {i b0 z x zz y : Int} (hi : ¬ i < (es.length : Int)) (hz : z = b0 + dif (es.take i.toNat) x zz y) : z = b0 + dif es x zz y := by rwa [takeA (by omega)] at hz
def backs (L : List (List Pt)) (l w : Int) : List Int := (List.range 4).map fun i => wind L (16 * l - 1) (smp w i)
theorem backs_get (L : List (List Pt)) (l w : Int) {i : Nat} (h : i < 4) : (backs L l w).getD i 0 = wind L (16 * l - 1) (smp w i) := by
  unfold backs
  rw [List.getD_eq_getElem?_getD, List.getElem?_map, List.getElem?_range h]; rfl
theorem tin_tile {L : List (List Pt)} {b : Bx} {rl c w : Int} (c0 : b.l ≤ c) (c1 : c < b.r) (w0 : b.t ≤ w) (w1 : w < b.b) {i k : Nat} (hi : i < 4) (hk : k < 4) : tin (touchE L b) (backs L b.l w) b.l rl c w i k = ins1 L rl (smp c k) (smp w i) := by
  unfold tin ins1 dif
  rw [backs_get L b.l w hi, wind_tile L (by unfold smp; omega) (by unfold smp; omega) (by unfold smp; omega) (by unfold smp; omega)]
theorem tcov_tile {L : List (List Pt)} {b : Bx} {rl c w : Int} (c0 : b.l ≤ c) (c1 : c < b.r) (w0 : b.t ≤ w) (w1 : w < b.b) : tcov (touchE L b) (backs L b.l w) b.l rl c w = cov L rl c w := by
  rw [← cov_turn]
  unfold tcov
  simp only [sumN]
  simp only [tin_tile (L := L) (rl := rl) c0 c1 w0 w1 (i := 0) (by decide), tin_tile (L := L) (rl := rl) c0 c1 w0 w1 (i := 1) (by decide), tin_tile (L := L) (rl := rl) c0 c1 w0 w1 (i := 2) (by decide), tin_tile (L := L) (rl := rl) c0 c1 w0 w1 (i := 3) (by decide), Nat.zero_lt_succ, Nat.reduceLT]
theorem backs_len (L : List (List Pt)) (l w : Int) : (backs L l w).length = 4 := by simp [backs]
theorem backs_at {L : List (List Pt)} (hv : vRings L = true) (l w : Int) : ∀ n ∈ backs L l w, -200 ≤ n ∧ n ≤ 200 := by
  intro n hn
  simp only [backs, List.mem_map] at hn
  obtain ⟨i, _, rfl⟩ := hn
  exact wind_bd hv _ _
structure okB (bk : List Int) : Prop where
  len : bk.length = 4
  all : ∀ n ∈ bk, -200 ≤ n ∧ n ≤ 200
structure okEs (es : List Edge) : Prop where
  len : es.length ≤ 200
  all : ∀ e ∈ es, okE e
theorem touch_ok {L : List (List Pt)} (h : vRings L = true) (b : Bx) : okEs (touchE L b) := ⟨touch_len h b, fun e he => edges_ok (vRings_ok h) e (List.mem_filter.1 he).1⟩
def spTCov_A : (List Edge) × (List Int) × Int × Int × Int × Int → List AV
  | (es, bk, l, rl, c, w) => [.c (.sl false (es.map edC)), .c (.sl false (bk.map intC)), I l, I rl, I c, I w]
def spTCov_pre : (List Edge) × (List Int) × Int × Int × Int × Int → Prop
  | (es, bk, l, rl, c, w) => okEs es ∧ okB bk ∧ (0 ≤ l ∧ l ≤ 12) ∧ (0 ≤ c ∧ c ≤ 12) ∧ 0 ≤ w ∧ w ≤ 12
def spTCov_post : (List Edge) × (List Int) × Int × Int × Int × Int → AV → List Box → Prop
  | (es, bk, l, rl, c, w), r, bs => r = I (tcov es bk l rl c w) ∧ bs = []
def spTCov : VE.Spec := famSpec spTCov_A d_led_li_i_i_i_i spTCov_pre spTCov_post 0 true
theorem spTCov_q : spTCov.flat = true ∧ spTCov.mt = [] ∧ spTCov.shut = false ∧ spTCov.cost = 0 ∧ (∀ a i, spTCov.pre a i = (i = [] ∧ famPre d_led_li_i_i_i_i spTCov_A spTCov_pre a)) ∧ ∀ a i r b, spTCov.post a i r b = (famPost d_led_li_i_i_i_i spTCov_post a r b) := ⟨rfl, rfl, rfl, rfl, fun _ _ => rfl, fun _ _ _ _ => rfl⟩
def spBack_A : (List (List Pt)) × Int × Int → List AV
  | (L, l, y) => [.c (.sl false (L.map lptC)), I l, I y]
def spBack_pre : (List (List Pt)) × Int × Int → Prop
  | (L, l, y) => vRings L = true ∧ (0 ≤ l ∧ l ≤ 12) ∧ -3000 ≤ y ∧ y ≤ 3000
def spBack_post : (List (List Pt)) × Int × Int → AV → List Box → Prop
  | (L, l, y), r, bs => r = I (wind L (16 * l - 1) y) ∧ bs = []
def spBack : VE.Spec := famSpec spBack_A d_llpt_i_i spBack_pre spBack_post 0 true
theorem spBack_q : spBack.flat = true ∧ spBack.mt = [] ∧ spBack.shut = false ∧ spBack.cost = 0 ∧ (∀ a i, spBack.pre a i = (i = [] ∧ famPre d_llpt_i_i spBack_A spBack_pre a)) ∧ ∀ a i r b, spBack.post a i r b = (famPost d_llpt_i_i spBack_post a r b) := ⟨rfl, rfl, rfl, rfl, fun _ _ => rfl, fun _ _ _ _ => rfl⟩
def okTm (L : List (List Pt)) (rl w h t : Int) : Bool := vRings L && isRl rl && isT w h t
def tmV (L : List (List Pt)) (rl w h t : Int) : List Int := if okTm L rl w h t = true then maskB L rl (tbox w h t) (tbox w h t).b else []
def spTMask_A : (List (List Pt)) × Int × Int × Int × Int → List AV
  | (L, rl, w, h, t) => [.c (.sl false (L.map lptC)), I rl, I w, I h, I t]
def spTMask_pre : (List (List Pt)) × Int × Int × Int × Int → Prop
  | (L, rl, w, h, t) => L.length ≤ 1000000000 ∧ total L ≤ 1000000000
def spTMask_post : (List (List Pt)) × Int × Int × Int × Int → AV → List Box → Prop
  | (L, rl, w, h, t), r, bs => r = .c (.sl false (((tmV L rl w h t)).map intC)) ∧ bs = []
def spTMask : VE.Spec := famSpecS spTMask_A d_llpt_i_i_i_i spTMask_pre spTMask_post 0 false
theorem spTMask_q : spTMask.flat = false ∧ spTMask.mt = [] ∧ spTMask.shut = true ∧ spTMask.cost = 0 ∧ (∀ a i, spTMask.pre a i = (i = [] ∧ famPre d_llpt_i_i_i_i spTMask_A spTMask_pre a)) ∧ ∀ a i r b, spTMask.post a i r b = (famPost d_llpt_i_i_i_i spTMask_post a r b) := ⟨rfl, rfl, rfl, rfl, fun _ _ => rfl, fun _ _ _ _ => rfl⟩
end Go.Proofs.Ytdkfamajaopgoaa
end
section
set_option maxRecDepth 100000
set_option linter.unusedSimpArgs false
set_option linter.unusedVariables false
namespace Go.Proofs.Ytdkfamajaopgoaa
open Go Go.VE
def tb77 : Nat → Option VE.Spec := tabOf [(99, wkIn spWind)]
theorem tb77_99 : tb77 99 = some (wkIn spWind) := rfl
theorem tb77_ok : TabOK Try.prog rt0 tb77 := (tabOf_cons (by kernel_rfl) sat_spec_winding tabOf_nil)
set_option maxHeartbeats 4000000 in
theorem sat_spec_backdrop_0 : Sat Try.prog rt0 77 (wkOut spBack) := by
  refine fn_sat hm ttok (tab := tb77) tb77_ok Try.func77 (c := Try.f77.body.getD .skip) (by kernel_rfl) (ts := [.tmp 6]) (by kernel_rfl) Try.ntmps77 (sq := fun _ => true) (by kernel_rfl) ?_
  intro args ins pk hpre0 hpk
  obtain ⟨rfl, hpre0⟩ := hpre0
  obtain ⟨⟨L, l, y⟩, rfl, hpre, hdec⟩ := famPre_ex hpre0
  clear hpre0 hdec
  try simp only [spBack_pre] at hpre
  replace hpk : pk + 0 ≤ pickLimit := hpk
  refine ⟨Nat.le_of_ble_eq_true rfl, ?_⟩
  simp (config := { maxSteps := 1000000 }) only [go_sem, ↓ifP_true, ↓ifP_false, ↓ifP_not, Nat.reduceLT, Nat.reduceAdd, Nat.reduceBEq, Nat.reduceSub, Nat.reduceLeDiff, Nat.reduceEqDiff, Nat.reduceMul, Int.reduceToNat, Int.reduceEq, Int.reduceLT, Int.reduceLE, Int.reduceAdd, Int.reduceSub, Int.reduceMul, reduceCtorEq, cond_true, cond_false, forall_eq', forall_eq, forall_const, implies_true, if_true, if_false, exists_eq_left', exists_eq', exists_eq, ne_eq, Try.f77, tb77_99, spBack_q, spBack_A, spBack_pre, spBack_post, spWind_q, spWind_A, spWind_pre, spWind_post]
  repeat' (first | apply And.intro | (intro _) | omega | assumption | with_reducible rfl)
  all_goals (first | (exact hpre.1; done) | (omega; done))
theorem sat_spec_backdrop : Sat Try.prog rt0 77 (wkIn spBack) := sat_in (sat_out sat_spec_backdrop_0)
def tb78 : Nat → Option VE.Spec := tabOf [(117, wkIn spStepOf), (98, wkIn spIns), (113, wkIn spToInt)]
theorem tb78_117 : tb78 117 = some (wkIn spStepOf) := rfl
theorem tb78_98 : tb78 98 = some (wkIn spIns) := rfl
theorem tb78_113 : tb78 113 = some (wkIn spToInt) := rfl
theorem tb78_ok : TabOK Try.prog rt0 tb78 := (tabOf_cons (by kernel_rfl) sat_spec_stepOf (tabOf_cons (by kernel_rfl) sat_spec_inside (tabOf_cons (by kernel_rfl) sat_spec_toInt tabOf_nil)))
set_option maxHeartbeats 4000000 in
theorem sat_spec_tileCover_0 : Sat Try.prog rt0 78 (wkOut spTCov) := by
  refine fn_sat hm ttok (tab := tb78) tb78_ok Try.func78 (c := Try.f78.body.getD .skip) (by kernel_rfl) (ts := [.tmp 12]) (by kernel_rfl) Try.ntmps78 (sq := fun id => !(id == 14)) (by kernel_rfl) ?_
  intro args ins pk hpre0 hpk
  obtain ⟨rfl, hpre0⟩ := hpre0
  obtain ⟨⟨es, bk, l, rl, c, w⟩, rfl, hpre, hdec⟩ := famPre_ex hpre0
  clear hpre0 hdec
  try simp only [spTCov_pre] at hpre
  replace hpk : pk + 0 ≤ pickLimit := hpk
  refine ⟨Nat.le_of_ble_eq_true rfl, ?_⟩
  simp (config := { maxSteps := 1000000 }) only [go_sem, ↓ifP_true, ↓ifP_false, ↓ifP_not, Nat.reduceLT, Nat.reduceAdd, Nat.reduceBEq, Nat.reduceSub, Nat.reduceLeDiff, Nat.reduceEqDiff, Nat.reduceMul, Int.reduceToNat, Int.reduceEq, Int.reduceLT, Int.reduceLE, Int.reduceAdd, Int.reduceSub, Int.reduceMul, reduceCtorEq, cond_true, cond_false, forall_eq', forall_eq, forall_const, implies_true, if_true, if_false, exists_eq_left', exists_eq', exists_eq, ne_eq, Try.f78, tb78_117, tb78_98, tb78_113, spTCov_q, spTCov_A, spTCov_pre, spTCov_post, spStepOf_q, spStepOf_A, spStepOf_pre, spStepOf_post, spIns_q, spIns_A, spIns_pre, spIns_post, spToInt_q, spToInt_A, spToInt_pre, spToInt_post]
  repeat' (first | apply And.intro | (intro _) | omega | assumption | with_reducible rfl)
  all_goals try (refine drawI (VE.Plan.first 0 (VE.Plan.first 1 (VE.Plan.first 2 (VE.Plan.first 3 (VE.Plan.first 4 (VE.Plan.first 5 (VE.Plan.first 6 (VE.Plan.first 7 (VE.Plan.first 8 (VE.Plan.first 9 (VE.Plan.first 10 (VE.Plan.first 11 (VE.Plan.first 12 (VE.Plan.first 15 (VE.Plan.first 16 (VE.Plan.first 17 (VE.Plan.first 18 (VE.Plan.first 19 (VE.Plan.first 20 (VE.Plan.first 21 (VE.Plan.first 22 (VE.Plan.first 23 (VE.Plan.first 24 (VE.Plan.first 25 (VE.Plan.first 26 (VE.Plan.first 27 (VE.Plan.first 28 (VE.Plan.alt 13 (VE.Plan.first 14 (VE.Plan.alt 29 (VE.Plan.first 30 (VE.Plan.alt 31 VE.Plan.nil VE.Plan.nil)) VE.Plan.nil)) VE.Plan.nil)))))))))))))))))))))))))))) (by decide +kernel) ?_; simp (config := { maxSteps := 1000000 }) only [go_sem, ↓ifP_true, ↓ifP_false, ↓ifP_not, Nat.reduceLT, Nat.reduceAdd, Nat.reduceBEq, Nat.reduceSub, Nat.reduceLeDiff, Nat.reduceEqDiff, Nat.reduceMul, Int.reduceToNat, Int.reduceEq, Int.reduceLT, Int.reduceLE, Int.reduceAdd, Int.reduceSub, Int.reduceMul, reduceCtorEq, cond_true, cond_false, forall_eq', forall_eq, forall_const, implies_true, if_true, if_false, exists_eq_left', exists_eq', exists_eq, ne_eq, planW, stepW, Try.f78, tb78_117, tb78_98, tb78_113, spTCov_q, spTCov_A, spTCov_pre, spTCov_post, spStepOf_q, spStepOf_A, spStepOf_pre, spStepOf_post, spIns_q, spIns_A, spIns_pre, spIns_post, spToInt_q, spToInt_A, spToInt_pre, spToInt_post]; repeat' (first | apply And.intro | (intro _) | omega | assumption | with_reducible rfl))
  any_goals
    refine loopS (α := Int × Int) false [6, 7, 8, 9, 10, 11, 13, 14, 15, 16, 17, 18, 19, 20, 21, 22, 23, 24, 25, 26, 27, 28, 29, 30, 31, 32, 33, 34, 35, 36, 37, 38, 39, 40, 41, 42, 43, 44, 45, 46, 47, 48, 49, 50, 51, 52, 53, 54, 55, 56, 57, 58, 59, 60, 61, 62, 63, 64, 65, 66, 67, 68, 69, 70, 71, 72, 73, 74, 75, 76, 77, 78, 79, 80, 81, 82, 83, 84, 85, 86] (fun σ => []) (fun σ x => [(13, I x.1), (14, I x.2)]) (fun σ x => []) (fun (n, i) => 0) (fun σ => (gI (σ.get 13), gI (σ.get 14))) (fun σ τ => []) (fun (n, i) => (0 ≤ i ∧ i ≤ 4) ∧ n = sumN (fun i => sumN (fun k => tin es bk l rl c w i k) 4) i.toNat) (fun (n, i) => (4 - i).toNat) ⟨by (simp (config := { maxSteps := 1000000 }) only [go_sem, ↓ifP_true, ↓ifP_false, ↓ifP_not, Nat.reduceLT, Nat.reduceAdd, Nat.reduceBEq, Nat.reduceSub, Nat.reduceLeDiff, Nat.reduceEqDiff, Nat.reduceMul, Int.reduceToNat, Int.reduceEq, Int.reduceLT, Int.reduceLE, Int.reduceAdd, Int.reduceSub, Int.reduceMul, reduceCtorEq, cond_true, cond_false, forall_eq', forall_eq, forall_const, implies_true, if_true, if_false, exists_eq_left', exists_eq', exists_eq, ne_eq, Try.f78, tb78_117, tb78_98, tb78_113, spTCov_q, spTCov_A, spTCov_pre, spTCov_post, spStepOf_q, spStepOf_A, spStepOf_pre, spStepOf_post, spIns_q, spIns_A, spIns_pre, spIns_post, spToInt_q, spToInt_A, spToInt_pre, spToInt_post]; (repeat' (first | apply And.intro | (intro _) | omega | assumption | with_reducible rfl)); all_goals (first | rfl)), ?_⟩
    rintro ⟨n, i⟩ hinv
    try dsimp only at hinv
    simp (config := { maxSteps := 1000000 }) only [go_sem, ↓ifP_true, ↓ifP_false, ↓ifP_not, Nat.reduceLT, Nat.reduceAdd, Nat.reduceBEq, Nat.reduceSub, Nat.reduceLeDiff, Nat.reduceEqDiff, Nat.reduceMul, Int.reduceToNat, Int.reduceEq, Int.reduceLT, Int.reduceLE, Int.reduceAdd, Int.reduceSub, Int.reduceMul, reduceCtorEq, cond_true, cond_false, forall_eq', forall_eq, forall_const, implies_true, if_true, if_false, exists_eq_left', exists_eq', exists_eq, ne_eq, Try.f78, tb78_117, tb78_98, tb78_113, spTCov_q, spTCov_A, spTCov_pre, spTCov_post, spStepOf_q, spStepOf_A, spStepOf_pre, spStepOf_post, spIns_q, spIns_A, spIns_pre, spIns_post, spToInt_q, spToInt_A, spToInt_pre, spToInt_post]
    have hB := tcov_bd es bk l rl c w i.toNat
    repeat' (first | apply And.intro | (intro _) | omega | assumption | with_reducible rfl)
    all_goals try (refine drawI (VE.Plan.first 0 (VE.Plan.first 1 (VE.Plan.first 2 (VE.Plan.first 3 (VE.Plan.first 4 (VE.Plan.first 5 (VE.Plan.first 6 (VE.Plan.first 7 (VE.Plan.first 8 (VE.Plan.first 9 (VE.Plan.first 10 (VE.Plan.first 11 (VE.Plan.first 12 (VE.Plan.first 15 (VE.Plan.first 16 (VE.Plan.first 17 (VE.Plan.first 18 (VE.Plan.first 19 (VE.Plan.first 20 (VE.Plan.first 21 (VE.Plan.first 22 (VE.Plan.first 23 (VE.Plan.first 24 (VE.Plan.first 25 (VE.Plan.first 26 (VE.Plan.first 27 (VE.Plan.first 28 (VE.Plan.alt 13 (VE.Plan.first 14 (VE.Plan.alt 29 (VE.Plan.first 30 (VE.Plan.alt 31 VE.Plan.nil VE.Plan.nil)) VE.Plan.nil)) VE.Plan.nil)))))))))))))))))))))))))))) (by decide +kernel) ?_; simp (config := { maxSteps := 1000000 }) only [go_sem, ↓ifP_true, ↓ifP_false, ↓ifP_not, Nat.reduceLT, Nat.reduceAdd, Nat.reduceBEq, Nat.reduceSub, Nat.reduceLeDiff, Nat.reduceEqDiff, Nat.reduceMul, Int.reduceToNat, Int.reduceEq, Int.reduceLT, Int.reduceLE, Int.reduceAdd, Int.reduceSub, Int.reduceMul, reduceCtorEq, cond_true, cond_false, forall_eq', forall_eq, forall_const, implies_true, if_true, if_false, exists_eq_left', exists_eq', exists_eq, ne_eq, planW, stepW, Try.f78, tb78_117, tb78_98, tb78_113, spTCov_q, spTCov_A, spTCov_pre, spTCov_post, spStepOf_q, spStepOf_A, spStepOf_pre, spStepOf_post, spIns_q, spIns_A, spIns_pre, spIns_post, spToInt_q, spToInt_A, spToInt_pre, spToInt_post]; repeat' (first | apply And.intro | (intro _) | omega | assumption | with_reducible rfl))
  
  any_goals
    have hI := hinv.1
    refine loopS (α := Int × Int) false [6, 7, 8, 9, 10, 11, 13, 16, 17, 18, 19, 20, 21, 22, 23, 24, 25, 26, 27, 28, 29, 30, 31, 32, 33, 34, 35, 36, 37, 38, 39, 40, 41, 42, 43, 44, 45, 46, 47, 48, 49, 50, 51, 52, 53, 54, 55, 56, 57, 58, 59, 60, 61, 62, 63, 64, 65, 66, 67, 68, 69, 70, 71, 72, 73, 74, 75, 76, 77, 78, 79, 80, 81, 82, 83, 84, 85, 86] (fun σ => []) (fun σ x => [(13, I x.1), (16, I x.2)]) (fun σ x => []) (fun (n, k) => 0) (fun σ => (gI (σ.get 13), gI (σ.get 16))) (fun σ τ => []) (fun (n, k) => (0 ≤ k ∧ k ≤ 4) ∧ n = sumN (fun i => sumN (fun k => tin es bk l rl c w i k) 4) i.toNat + sumN (fun k => tin es bk l rl c w i.toNat k) k.toNat) (fun (n, k) => (4 - k).toNat) ⟨by (simp (config := { maxSteps := 1000000 }) only [go_sem, ↓ifP_true, ↓ifP_false, ↓ifP_not, Nat.reduceLT, Nat.reduceAdd, Nat.reduceBEq, Nat.reduceSub, Nat.reduceLeDiff, Nat.reduceEqDiff, Nat.reduceMul, Int.reduceToNat, Int.reduceEq, Int.reduceLT, Int.reduceLE, Int.reduceAdd, Int.reduceSub, Int.reduceMul, reduceCtorEq, cond_true, cond_false, forall_eq', forall_eq, forall_const, implies_true, if_true, if_false, exists_eq_left', exists_eq', exists_eq, ne_eq, Try.f78, tb78_117, tb78_98, tb78_113, spTCov_q, spTCov_A, spTCov_pre, spTCov_post, spStepOf_q, spStepOf_A, spStepOf_pre, spStepOf_post, spIns_q, spIns_A, spIns_pre, spIns_post, spToInt_q, spToInt_A, spToInt_pre, spToInt_post]; (repeat' (first | apply And.intro | (intro _) | omega | assumption | with_reducible rfl)); all_goals (first | (rw [hinv.2]; exact (Int.add_zero _).symm))), ?_⟩
    rintro ⟨n, k⟩ hinv
    try dsimp only at hinv
    simp (config := { maxSteps := 1000000 }) only [go_sem, ↓ifP_true, ↓ifP_false, ↓ifP_not, Nat.reduceLT, Nat.reduceAdd, Nat.reduceBEq, Nat.reduceSub, Nat.reduceLeDiff, Nat.reduceEqDiff, Nat.reduceMul, Int.reduceToNat, Int.reduceEq, Int.reduceLT, Int.reduceLE, Int.reduceAdd, Int.reduceSub, Int.reduceMul, reduceCtorEq, cond_true, cond_false, forall_eq', forall_eq, forall_const, implies_true, if_true, if_false, exists_eq_left', exists_eq', exists_eq, ne_eq, Try.f78, tb78_117, tb78_98, tb78_113, spTCov_q, spTCov_A, spTCov_pre, spTCov_post, spStepOf_q, spStepOf_A, spStepOf_pre, spStepOf_post, spIns_q, spIns_A, spIns_pre, spIns_post, spToInt_q, spToInt_A, spToInt_pre, spToInt_post]
    have hB2 := trow_bd es bk l rl c w i.toNat k.toNat
    have hblen := hpre.2.1.len
    repeat' (first | apply And.intro | (intro _) | omega | assumption | with_reducible rfl)
    all_goals try (refine drawI (VE.Plan.first 0 (VE.Plan.first 1 (VE.Plan.first 2 (VE.Plan.first 3 (VE.Plan.first 4 (VE.Plan.first 5 (VE.Plan.first 6 (VE.Plan.first 7 (VE.Plan.first 8 (VE.Plan.first 9 (VE.Plan.first 10 (VE.Plan.first 11 (VE.Plan.first 12 (VE.Plan.first 15 (VE.Plan.first 16 (VE.Plan.first 17 (VE.Plan.first 18 (VE.Plan.first 19 (VE.Plan.first 20 (VE.Plan.first 21 (VE.Plan.first 22 (VE.Plan.first 23 (VE.Plan.first 24 (VE.Plan.first 25 (VE.Plan.first 26 (VE.Plan.first 27 (VE.Plan.first 28 (VE.Plan.alt 13 (VE.Plan.first 14 (VE.Plan.alt 29 (VE.Plan.first 30 (VE.Plan.alt 31 VE.Plan.nil VE.Plan.nil)) VE.Plan.nil)) VE.Plan.nil)))))))))))))))))))))))))))) (by decide +kernel) ?_; simp (config := { maxSteps := 1000000 }) only [go_sem, ↓ifP_true, ↓ifP_false, ↓ifP_not, Nat.reduceLT, Nat.reduceAdd, Nat.reduceBEq, Nat.reduceSub, Nat.reduceLeDiff, Nat.reduceEqDiff, Nat.reduceMul, Int.reduceToNat, Int.reduceEq, Int.reduceLT, Int.reduceLE, Int.reduceAdd, Int.reduceSub, Int.reduceMul, reduceCtorEq, cond_true, cond_false, forall_eq', forall_eq, forall_const, implies_true, if_true, if_false, exists_eq_left', exists_eq', exists_eq, ne_eq, planW, stepW, Try.f78, tb78_117, tb78_98, tb78_113, spTCov_q, spTCov_A, spTCov_pre, spTCov_post, spStepOf_q, spStepOf_A, spStepOf_pre, spStepOf_post, spIns_q, spIns_A, spIns_pre, spIns_post, spToInt_q, spToInt_A, spToInt_pre, spToInt_post]; repeat' (first | apply And.intro | (intro _) | omega | assumption | with_reducible rfl))
  any_goals
    rename_i b0 hb0
    have hN := hinv
    refine loopS (α := Int × Int) false [6, 7, 8, 9, 10, 11, 18, 19, 20, 21, 22, 23, 24, 25, 26, 27, 28, 29, 30, 31, 32, 33, 34, 35, 36, 37, 38, 39, 40, 41, 42, 43, 44, 45, 46, 47, 48, 49, 50, 51, 52, 53, 54, 55, 56, 57, 58, 59, 60, 61, 62, 63, 64, 65, 66, 67, 68, 69, 70, 71, 72, 73, 74, 75, 76, 77, 78, 79, 80] (fun σ => []) (fun σ x => [(18, I x.1), (19, I x.2)]) (fun σ x => []) (fun (z, e) => 0) (fun σ => (gI (σ.get 18), gI (σ.get 19))) (fun σ τ => []) (fun (z, e) => 0 ≤ e ∧ e ≤ es.length ∧ z = b0 + dif (es.take e.toNat) (16 * c + 4 * k + 2) (16 * l - 1) (16 * w + 4 * i + 2)) (fun (z, e) => (es.length - e).toNat) ⟨by (simp (config := { maxSteps := 1000000 }) only [go_sem, ↓ifP_true, ↓ifP_false, ↓ifP_not, Nat.reduceLT, Nat.reduceAdd, Nat.reduceBEq, Nat.reduceSub, Nat.reduceLeDiff, Nat.reduceEqDiff, Nat.reduceMul, Int.reduceToNat, Int.reduceEq, Int.reduceLT, Int.reduceLE, Int.reduceAdd, Int.reduceSub, Int.reduceMul, reduceCtorEq, cond_true, cond_false, forall_eq', forall_eq, forall_const, implies_true, if_true, if_false, exists_eq_left', exists_eq', exists_eq, ne_eq, Try.f78, tb78_117, tb78_98, tb78_113, spTCov_q, spTCov_A, spTCov_pre, spTCov_post, spStepOf_q, spStepOf_A, spStepOf_pre, spStepOf_post, spIns_q, spIns_A, spIns_pre, spIns_post, spToInt_q, spToInt_A, spToInt_pre, spToInt_post]; (repeat' (first | apply And.intro | (intro _) | omega | assumption | with_reducible rfl)); all_goals (first | (simp [dif, windE]))), ?_⟩
    rintro ⟨z, e⟩ hinv
    try dsimp only at hinv
    rcases elemAt es e (by omega) with ⟨hlt, d, hk⟩ | hlt
    all_goals (first | ((have hlt2 := of_eq_true hlt); (have hl2 := hpre.1.len); (have hE := hpre.1.all d (List.mem_of_getElem? hk)); (have hD := dif_bd es e (16 * c + 4 * k + 2) (16 * l - 1) (16 * w + 4 * i + 2) hpre.1.len); (have hb1 := hpre.2.1.all b0 (List.mem_of_getElem? hb0)); (have c1 := con_bd ⟨d.p, d.q⟩ (16 * c + 4 * k + 2) (16 * w + 4 * i + 2)); (have c2 := con_bd ⟨d.p, d.q⟩ (16 * l - 1) (16 * w + 4 * i + 2)); all_goals simp (config := { maxSteps := 1000000 }) only [go_sem, ↓ifP_true, ↓ifP_false, ↓ifP_not, Nat.reduceLT, Nat.reduceAdd, Nat.reduceBEq, Nat.reduceSub, Nat.reduceLeDiff, Nat.reduceEqDiff, Nat.reduceMul, Int.reduceToNat, Int.reduceEq, Int.reduceLT, Int.reduceLE, Int.reduceAdd, Int.reduceSub, Int.reduceMul, reduceCtorEq, cond_true, cond_false, forall_eq', forall_eq, forall_const, implies_true, if_true, if_false, exists_eq_left', exists_eq', exists_eq, ne_eq, Try.f78, tb78_117, tb78_98, tb78_113, spTCov_q, spTCov_A, spTCov_pre, spTCov_post, spStepOf_q, spStepOf_A, spStepOf_pre, spStepOf_post, spIns_q, spIns_A, spIns_pre, spIns_post, spToInt_q, spToInt_A, spToInt_pre, spToInt_post, hlt, hk]) | (have hlt2 := of_eq_false hlt; simp (config := { maxSteps := 1000000 }) only [go_sem, ↓ifP_true, ↓ifP_false, ↓ifP_not, Nat.reduceLT, Nat.reduceAdd, Nat.reduceBEq, Nat.reduceSub, Nat.reduceLeDiff, Nat.reduceEqDiff, Nat.reduceMul, Int.reduceToNat, Int.reduceEq, Int.reduceLT, Int.reduceLE, Int.reduceAdd, Int.reduceSub, Int.reduceMul, reduceCtorEq, cond_true, cond_false, forall_eq', forall_eq, forall_const, implies_true, if_true, if_false, exists_eq_left', exists_eq', exists_eq, ne_eq, Try.f78, tb78_117, tb78_98, tb78_113, spTCov_q, spTCov_A, spTCov_pre, spTCov_post, spStepOf_q, spStepOf_A, spStepOf_pre, spStepOf_post, spIns_q, spIns_A, spIns_pre, spIns_post, spToInt_q, spToInt_A, spToInt_pre, spToInt_post, hlt]))
    all_goals
    repeat' (first | apply And.intro | (intro _) | omega | assumption | with_reducible rfl)
    all_goals try (refine drawI (VE.Plan.first 0 (VE.Plan.first 1 (VE.Plan.first 2 (VE.Plan.first 3 (VE.Plan.first 4 (VE.Plan.first 5 (VE.Plan.first 6 (VE.Plan.first 7 (VE.Plan.first 8 (VE.Plan.first 9 (VE.Plan.first 10 (VE.Plan.first 11 (VE.Plan.first 12 (VE.Plan.first 15 (VE.Plan.first 16 (VE.Plan.first 17 (VE.Plan.first 18 (VE.Plan.first 19 (VE.Plan.first 20 (VE.Plan.first 21 (VE.Plan.first 22 (VE.Plan.first 23 (VE.Plan.first 24 (VE.Plan.first 25 (VE.Plan.first 26 (VE.Plan.first 27 (VE.Plan.first 28 (VE.Plan.alt 13 (VE.Plan.first 14 (VE.Plan.alt 29 (VE.Plan.first 30 (VE.Plan.alt 31 VE.Plan.nil VE.Plan.nil)) VE.Plan.nil)) VE.Plan.nil)))))))))))))))))))))))))))) (by decide +kernel) ?_; (first | simp (config := { maxSteps := 1000000 }) only [go_sem, ↓ifP_true, ↓ifP_false, ↓ifP_not, Nat.reduceLT, Nat.reduceAdd, Nat.reduceBEq, Nat.reduceSub, Nat.reduceLeDiff, Nat.reduceEqDiff, Nat.reduceMul, Int.reduceToNat, Int.reduceEq, Int.reduceLT, Int.reduceLE, Int.reduceAdd, Int.reduceSub, Int.reduceMul, reduceCtorEq, cond_true, cond_false, forall_eq', forall_eq, forall_const, implies_true, if_true, if_false, exists_eq_left', exists_eq', exists_eq, ne_eq, planW, stepW, Try.f78, tb78_117, tb78_98, tb78_113, spTCov_q, spTCov_A, spTCov_pre, spTCov_post, spStepOf_q, spStepOf_A, spStepOf_pre, spStepOf_post, spIns_q, spIns_A, spIns_pre, spIns_post, spToInt_q, spToInt_A, spToInt_pre, spToInt_post, hlt, hk] | simp (config := { maxSteps := 1000000 }) only [go_sem, ↓ifP_true, ↓ifP_false, ↓ifP_not, Nat.reduceLT, Nat.reduceAdd, Nat.reduceBEq, Nat.reduceSub, Nat.reduceLeDiff, Nat.reduceEqDiff, Nat.reduceMul, Int.reduceToNat, Int.reduceEq, Int.reduceLT, Int.reduceLE, Int.reduceAdd, Int.reduceSub, Int.reduceMul, reduceCtorEq, cond_true, cond_false, forall_eq', forall_eq, forall_const, implies_true, if_true, if_false, exists_eq_left', exists_eq', exists_eq, ne_eq, planW, stepW, Try.f78, tb78_117, tb78_98, tb78_113, spTCov_q, spTCov_A, spTCov_pre, spTCov_post, spStepOf_q, spStepOf_A, spStepOf_pre, spStepOf_post, spIns_q, spIns_A, spIns_pre, spIns_post, spToInt_q, spToInt_A, spToInt_pre, spToInt_post]); repeat' (first | apply And.intro | (intro _) | omega | assumption | with_reducible rfl))
  all_goals (first | (exact hE.1; done) | (exact hE.2; done) | (omega; done) | (exact tc_step hk hinv.1 hinv.2.2; done) | ((have hD := dif_bd es e (16 * c + 4 * k + 2) (16 * l - 1) (16 * w + 4 * i + 2) hpre.1.len; have hb1 := hpre.2.1.all b0 (List.mem_of_getElem? hb0); omega); done) | ((rw [sumN_step _ hN.1.1, tin_eq hb0 hI.1 hN.1.1 (tc_end hlt2 hinv.2.2), hN.2, Int.add_assoc]); done) | ((rw [hinv.2, sumN_step _ (by omega), show k.toNat = 4 by omega]); done) | ((rw [hinv.2, show i.toNat = 4 by omega]; rfl); done))
theorem sat_spec_tileCover : Sat Try.prog rt0 78 (wkIn spTCov) := sat_in (sat_out sat_spec_tileCover_0)
end Go.Proofs.Ytdkfamajaopgoaa
end
section
set_option maxRecDepth 100000
set_option linter.unusedSimpArgs false
set_option linter.unusedVariables false
namespace Go.Proofs.Ytdkfamajaopgoaa
open Go Go.VE
theorem tbox_pos {w h t : Int} (H : isT w h t = true) : (tbox w h t).l < (tbox w h t).r ∧ (tbox w h t).t < (tbox w h t).b := by
  obtain ⟨f1, f2, f3, f4, f5, f6, f7, f8, f9, f10⟩ := isT_facts H
  have e1 : acr w = (w + 3) / 4 := rfl
  have e2 : acr h = (h + 3) / 4 := rfl
  simp only [tbox]
  omega
theorem tm_if {L : List (List Pt)} {rl w h t : Int} (hv : vRings L = true) (hr : isRl rl = true) (ht : isT w h t = true) : tmV L rl w h t = maskB L rl (tbox w h t) (tbox w h t).b := by
  rw [tmV, if_pos (by rw [okTm, hv, hr, ht]; rfl)]
theorem tm_no {L : List (List Pt)} {rl w h t : Int} (hv : vRings L = false ∨ isRl rl = false ∨ isT w h t = false) : tmV L rl w h t = [] := by
  rw [tmV, if_neg]
  rcases hv with hv | hv | hv <;> simp [okTm, hv]
def tb32 : Nat → Option VE.Spec := tabOf [(34, wkIn spTb), (57, wkIn spVRings), (58, wkIn spRl), (60, wkIn spMasked)]
theorem tb32_34 : tb32 34 = some (wkIn spTb) := rfl
theorem tb32_57 : tb32 57 = some (wkIn spVRings) := rfl
theorem tb32_58 : tb32 58 = some (wkIn spRl) := rfl
theorem tb32_60 : tb32 60 = some (wkIn spMasked) := rfl
theorem tb32_ok : TabOK Try.prog rt0 tb32 := (tabOf_cons (by kernel_rfl) sat_impl_TileBox (tabOf_cons (by kernel_rfl) sat_impl_ValidRings (tabOf_cons (by kernel_rfl) sat_impl_isRule (tabOf_cons (by kernel_rfl) sat_impl_masked tabOf_nil))))
set_option maxHeartbeats 4000000 in
theorem sat_impl_TileMask_0 : Sat Try.prog rt0 32 (wkOut spTMask) := by
  refine fn_sat hm ttok (tab := tb32) tb32_ok Try.func32 (c := Try.f32.body.getD .skip) (by kernel_rfl) (ts := [.tmp 10]) (by kernel_rfl) Try.ntmps32 (sq := fun _ => true) (by kernel_rfl) ?_
  intro args ins pk hpre0 hpk
  obtain ⟨rfl, hpre0⟩ := hpre0
  obtain ⟨⟨L, rl, w, h, t⟩, rfl, hpre, hdec⟩ := famPre_ex hpre0
  clear hpre0 hdec
  try simp only [spTMask_pre] at hpre
  replace hpk : pk + 0 ≤ pickLimit := hpk
  refine ⟨Nat.le_of_ble_eq_true rfl, ?_⟩
  simp (config := { maxSteps := 1000000 }) only [go_sem, ↓ifP_true, ↓ifP_false, ↓ifP_not, Nat.reduceLT, Nat.reduceAdd, Nat.reduceBEq, Nat.reduceSub, Nat.reduceLeDiff, Nat.reduceEqDiff, Nat.reduceMul, Int.reduceToNat, Int.reduceEq, Int.reduceLT, Int.reduceLE, Int.reduceAdd, Int.reduceSub, Int.reduceMul, reduceCtorEq, cond_true, cond_false, forall_eq', forall_eq, forall_const, implies_true, if_true, if_false, exists_eq_left', exists_eq', exists_eq, ne_eq, Try.f32, tb32_34, tb32_57, tb32_58, tb32_60, spTMask_q, spTMask_A, spTMask_pre, spTMask_post, spTb_q, spTb_A, spTb_pre, spTb_post, spVRings_q, spVRings_A, spVRings_pre, spVRings_post, spRl_q, spRl_A, spRl_pre, spRl_post, spMasked_q, spMasked_A, spMasked_pre, spMasked_post]
  repeat' (first | apply And.intro | (intro _) | omega | assumption | with_reducible rfl)
  all_goals (first | ((have h1 := tbox_rng ‹isT w h t = true›; have h2 := tbox_pos ‹isT w h t = true›; rw [if_pos ‹isT w h t = true›]; omega); done) | ((rw [tm_if ‹_› ‹_› ‹_›, if_pos ‹isT w h t = true›]); done) | ((rw [tm_no (.inl ‹_›)]; rfl); done) | ((rw [tm_no (.inr (.inl ‹_›))]; rfl); done) | ((rw [tm_no (.inr (.inr ‹_›))]; rfl); done))
theorem sat_impl_TileMask : Sat Try.prog rt0 32 (wkIn spTMask) := sat_in (sat_out sat_impl_TileMask_0)
end Go.Proofs.Ytdkfamajaopgoaa
end
section
set_option maxRecDepth 100000
set_option linter.unusedSimpArgs false
set_option linter.unusedVariables false
namespace Go.Proofs.Ytdkfamajaopgoaa
open Go Go.VE
theorem backs_step (L : List (List Pt)) (l w : Int) {j : Int} (h0 : 0 ≤ j) (h4 : j < 4) : (backs L l w).take (j + 1).toNat = (backs L l w).take j.toNat ++ [wind L (16 * l - 1) (16 * w + 4 * j + 2)] := by
  refine takeN ?_ h0
  unfold backs
  rw [List.getElem?_map, List.getElem?_range (by omega)]
  simp only [Option.map_some, Option.some.injEq]
  congr 1; unfold smp; omega
theorem backs_ok {L : List (List Pt)} (hv : vRings L = true) (l w : Int) : okB (backs L l w) := ⟨backs_len L l w, backs_at hv l w⟩
theorem backs_end {L : List (List Pt)} {l w j : Int} {bk : List Int} (hb : bk = (backs L l w).take j.toNat) (hj : ¬ j < 4) : bk = backs L l w := by
  rwa [List.take_of_length_le (by rw [backs_len]; omega)] at hb
def tb33 : Nat → Option VE.Spec := tabOf [(61, wkIn spVRings), (62, wkIn spIn), (63, wkIn spSzd), (74, wkIn spTiles), (75, wkIn spTb2), (76, wkIn spTouch), (77, wkIn spBack), (78, wkIn spTCov)]
theorem tb33_61 : tb33 61 = some (wkIn spVRings) := rfl
theorem tb33_62 : tb33 62 = some (wkIn spIn) := rfl
theorem tb33_63 : tb33 63 = some (wkIn spSzd) := rfl
theorem tb33_74 : tb33 74 = some (wkIn spTiles) := rfl
theorem tb33_75 : tb33 75 = some (wkIn spTb2) := rfl
theorem tb33_76 : tb33 76 = some (wkIn spTouch) := rfl
theorem tb33_77 : tb33 77 = some (wkIn spBack) := rfl
theorem tb33_78 : tb33 78 = some (wkIn spTCov) := rfl
theorem tb33_ok : TabOK Try.prog rt0 tb33 := (tabOf_cons (by kernel_rfl) sat_spec_validRings (tabOf_cons (by kernel_rfl) sat_spec_inRange (tabOf_cons (by kernel_rfl) sat_spec_validSize (tabOf_cons (by kernel_rfl) sat_spec_tiles (tabOf_cons (by kernel_rfl) sat_spec_tileBox (tabOf_cons (by kernel_rfl) sat_spec_touched (tabOf_cons (by kernel_rfl) sat_spec_backdrop (tabOf_cons (by kernel_rfl) sat_spec_tileCover tabOf_nil))))))))
set_option maxHeartbeats 4000000 in
theorem sat_spec_TileMask_0 : Sat Try.prog rt0 33 (wkOut spTMask) := by
  refine fn_sat hm ttok (tab := tb33) tb33_ok Try.func33 (c := Try.f33.body.getD .skip) (by kernel_rfl) (ts := [.tmp 10]) (by kernel_rfl) Try.ntmps33 (sq := fun _ => true) (by kernel_rfl) ?_
  intro args ins pk hpre0 hpk
  obtain ⟨rfl, hpre0⟩ := hpre0
  obtain ⟨⟨L, rl, w, h, t⟩, rfl, hpre, hdec⟩ := famPre_ex hpre0
  clear hpre0 hdec
  try simp only [spTMask_pre] at hpre
  replace hpk : pk + 0 ≤ pickLimit := hpk
  refine ⟨Nat.le_of_ble_eq_true rfl, ?_⟩
  simp (config := { maxSteps := 1000000 }) only [go_sem, ↓ifP_true, ↓ifP_false, ↓ifP_not, Nat.reduceLT, Nat.reduceAdd, Nat.reduceBEq, Nat.reduceSub, Nat.reduceLeDiff, Nat.reduceEqDiff, Nat.reduceMul, Int.reduceToNat, Int.reduceEq, Int.reduceLT, Int.reduceLE, Int.reduceAdd, Int.reduceSub, Int.reduceMul, reduceCtorEq, cond_true, cond_false, forall_eq', forall_eq, forall_const, implies_true, if_true, if_false, exists_eq_left', exists_eq', exists_eq, ne_eq, Try.f33, tb33_61, tb33_62, tb33_63, tb33_74, tb33_75, tb33_76, tb33_77, tb33_78, spTMask_q, spTMask_A, spTMask_pre, spTMask_post, spVRings_q, spVRings_A, spVRings_pre, spVRings_post, spIn_q, spIn_A, spIn_pre, spIn_post, spSzd_q, spSzd_A, spSzd_pre, spSzd_post, spTiles_q, spTiles_A, spTiles_pre, spTiles_post, spTb2_q, spTb2_A, spTb2_pre, spTb2_post, spTouch_q, spTouch_A, spTouch_pre, spTouch_post, spBack_q, spBack_A, spBack_pre, spBack_post, spTCov_q, spTCov_A, spTCov_pre, spTCov_post]
  repeat' (first | apply And.intro | (intro _) | omega | assumption | with_reducible rfl)
  all_goals try (have hT : isT w h t = true := isT_yes ‹_› ‹_› (by omega))
  all_goals try (have hx := tbox_rng hT)
  all_goals try (have hp := tbox_pos hT)
  all_goals try (have hV : vRings L = true := ‹_›)
  all_goals try (first | exact hT | omega | (have h9 := acr_rng ‹szd w h = true›; omega) | (apply okB.mk <;> assumption))
  any_goals
    refine loopS (α := (List Int) × Int) false [2, 3, 4, 5, 6, 7, 8, 9, 11, 14, 15, 16, 17, 18, 19, 20, 21, 22, 23, 24, 25, 26, 27, 28, 29, 30, 31, 32, 33, 34, 35, 36, 37, 38, 39, 40, 41, 42, 43, 44, 45, 46, 47, 48, 49, 50, 51, 52, 53, 54, 55, 56, 57, 58, 59, 60, 61, 62, 63, 64, 65, 66, 67, 68, 69, 70, 71, 72, 73, 74, 75, 76, 77, 78, 79, 80, 81, 82, 83, 84, 85, 86, 87, 88, 89, 90, 91, 92, 93] (fun σ => [gId (σ.get 11)]) (fun σ x => [(11, .c (.own (gId (σ.get 11)) (x.1).length false)), (14, I x.2)]) (fun σ x => [(gId (σ.get 11), some ⟨(x.1).map intC, 1, 3, true, false⟩)]) (fun (o, i) => 0) (fun σ => (gL intCd σ (σ.get 11), gI (σ.get 14))) (fun σ τ => [(gId (σ.get 11), gId (τ.get 11))]) (fun (o, i) => ((tbox w h t).t ≤ i ∧ i ≤ (tbox w h t).b) ∧ o = maskB L rl (tbox w h t) i) (fun (o, i) => ((tbox w h t).b - i).toNat) ⟨by (simp (config := { maxSteps := 1000000 }) only [go_sem, ↓ifP_true, ↓ifP_false, ↓ifP_not, Nat.reduceLT, Nat.reduceAdd, Nat.reduceBEq, Nat.reduceSub, Nat.reduceLeDiff, Nat.reduceEqDiff, Nat.reduceMul, Int.reduceToNat, Int.reduceEq, Int.reduceLT, Int.reduceLE, Int.reduceAdd, Int.reduceSub, Int.reduceMul, reduceCtorEq, cond_true, cond_false, forall_eq', forall_eq, forall_const, implies_true, if_true, if_false, exists_eq_left', exists_eq', exists_eq, ne_eq, Try.f33, tb33_61, tb33_62, tb33_63, tb33_74, tb33_75, tb33_76, tb33_77, tb33_78, spTMask_q, spTMask_A, spTMask_pre, spTMask_post, spVRings_q, spVRings_A, spVRings_pre, spVRings_post, spIn_q, spIn_A, spIn_pre, spIn_post, spSzd_q, spSzd_A, spSzd_pre, spSzd_post, spTiles_q, spTiles_A, spTiles_pre, spTiles_post, spTb2_q, spTb2_A, spTb2_pre, spTb2_post, spTouch_q, spTouch_A, spTouch_pre, spTouch_post, spBack_q, spBack_A, spBack_pre, spBack_post, spTCov_q, spTCov_A, spTCov_pre, spTCov_post]; (repeat' (first | apply And.intro | (intro _) | omega | assumption | with_reducible rfl)); all_goals (first | omega | exact (maskB_0 _ _ _).symm)), ?_⟩
    rintro ⟨o, i⟩ hinv
    try dsimp only at hinv
    simp (config := { maxSteps := 1000000 }) only [go_sem, ↓ifP_true, ↓ifP_false, ↓ifP_not, Nat.reduceLT, Nat.reduceAdd, Nat.reduceBEq, Nat.reduceSub, Nat.reduceLeDiff, Nat.reduceEqDiff, Nat.reduceMul, Int.reduceToNat, Int.reduceEq, Int.reduceLT, Int.reduceLE, Int.reduceAdd, Int.reduceSub, Int.reduceMul, reduceCtorEq, cond_true, cond_false, forall_eq', forall_eq, forall_const, implies_true, if_true, if_false, exists_eq_left', exists_eq', exists_eq, ne_eq, Try.f33, tb33_61, tb33_62, tb33_63, tb33_74, tb33_75, tb33_76, tb33_77, tb33_78, spTMask_q, spTMask_A, spTMask_pre, spTMask_post, spVRings_q, spVRings_A, spVRings_pre, spVRings_post, spIn_q, spIn_A, spIn_pre, spIn_post, spSzd_q, spSzd_A, spSzd_pre, spSzd_post, spTiles_q, spTiles_A, spTiles_pre, spTiles_post, spTb2_q, spTb2_A, spTb2_pre, spTb2_post, spTouch_q, spTouch_A, spTouch_pre, spTouch_post, spBack_q, spBack_A, spBack_pre, spBack_post, spTCov_q, spTCov_A, spTCov_pre, spTCov_post]
    have hl := maskB_len L rl (tbox w h t) i
    have hm := mask_small (m := (i - (tbox w h t).t).toNat) (n := ((tbox w h t).r - (tbox w h t).l).toNat) (by omega) (by omega)
    rw [← hinv.2] at hl
    repeat' (first | apply And.intro | (intro _) | omega | assumption | with_reducible rfl)
  any_goals
    have hI := hinv
    refine loopS (α := (List Int) × Int) false [2, 3, 4, 5, 6, 7, 8, 9, 15, 16, 18, 19, 20, 21, 22, 23, 24, 25, 26, 27, 28, 29, 30, 31, 32, 33, 34, 35, 36, 37, 38, 39, 40, 41, 42, 43, 44, 45, 46, 47, 48, 49, 50, 51, 52, 53, 54, 55, 56, 57, 58, 59, 60, 61, 62, 63, 64, 65, 66, 67, 68, 69, 70, 71, 72, 73, 74, 80] (fun σ => [gId (σ.get 15)]) (fun σ x => [(15, .c (.own (gId (σ.get 15)) (x.1).length false)), (16, I x.2)]) (fun σ x => [(gId (σ.get 15), some ⟨(x.1).map intC, 1, 3, true, false⟩)]) (fun (bk, j) => 0) (fun σ => (gL intCd σ (σ.get 15), gI (σ.get 16))) (fun σ τ => [(gId (σ.get 15), gId (τ.get 15))]) (fun (bk, j) => (0 ≤ j ∧ j ≤ 4) ∧ bk = (backs L (tbox w h t).l i).take j.toNat) (fun (bk, j) => (4 - j).toNat) ⟨by (simp (config := { maxSteps := 1000000 }) only [go_sem, ↓ifP_true, ↓ifP_false, ↓ifP_not, Nat.reduceLT, Nat.reduceAdd, Nat.reduceBEq, Nat.reduceSub, Nat.reduceLeDiff, Nat.reduceEqDiff, Nat.reduceMul, Int.reduceToNat, Int.reduceEq, Int.reduceLT, Int.reduceLE, Int.reduceAdd, Int.reduceSub, Int.reduceMul, reduceCtorEq, cond_true, cond_false, forall_eq', forall_eq, forall_const, implies_true, if_true, if_false, exists_eq_left', exists_eq', exists_eq, ne_eq, Try.f33, tb33_61, tb33_62, tb33_63, tb33_74, tb33_75, tb33_76, tb33_77, tb33_78, spTMask_q, spTMask_A, spTMask_pre, spTMask_post, spVRings_q, spVRings_A, spVRings_pre, spVRings_post, spIn_q, spIn_A, spIn_pre, spIn_post, spSzd_q, spSzd_A, spSzd_pre, spSzd_post, spTiles_q, spTiles_A, spTiles_pre, spTiles_post, spTb2_q, spTb2_A, spTb2_pre, spTb2_post, spTouch_q, spTouch_A, spTouch_pre, spTouch_post, spBack_q, spBack_A, spBack_pre, spBack_post, spTCov_q, spTCov_A, spTCov_pre, spTCov_post]; (repeat' (first | apply And.intro | (intro _) | omega | assumption | with_reducible rfl)); all_goals (first | rfl)), ?_⟩
    rintro ⟨bk, j⟩ hinv
    try dsimp only at hinv
    simp (config := { maxSteps := 1000000 }) only [go_sem, ↓ifP_true, ↓ifP_false, ↓ifP_not, Nat.reduceLT, Nat.reduceAdd, Nat.reduceBEq, Nat.reduceSub, Nat.reduceLeDiff, Nat.reduceEqDiff, Nat.reduceMul, Int.reduceToNat, Int.reduceEq, Int.reduceLT, Int.reduceLE, Int.reduceAdd, Int.reduceSub, Int.reduceMul, reduceCtorEq, cond_true, cond_false, forall_eq', forall_eq, forall_const, implies_true, if_true, if_false, exists_eq_left', exists_eq', exists_eq, ne_eq, Try.f33, tb33_61, tb33_62, tb33_63, tb33_74, tb33_75, tb33_76, tb33_77, tb33_78, spTMask_q, spTMask_A, spTMask_pre, spTMask_post, spVRings_q, spVRings_A, spVRings_pre, spVRings_post, spIn_q, spIn_A, spIn_pre, spIn_post, spSzd_q, spSzd_A, spSzd_pre, spSzd_post, spTiles_q, spTiles_A, spTiles_pre, spTiles_post, spTb2_q, spTb2_A, spTb2_pre, spTb2_post, spTouch_q, spTouch_A, spTouch_pre, spTouch_post, spBack_q, spBack_A, spBack_pre, spBack_post, spTCov_q, spTCov_A, spTCov_pre, spTCov_post]
    have hl3 : bk.length ≤ 4 := by rw [hinv.2, List.length_take, backs_len]; omega
    repeat' (first | apply And.intro | (intro _) | omega | assumption | with_reducible rfl)
  all_goals try (rw [backs_step _ _ _ (by omega) (by omega), ← hinv.2])
  all_goals try omega
  any_goals
    have hbk := backs_end hinv.2 (by omega)
    subst hbk
    rw [hI.2] at hl
    refine loopS (α := (List Int) × Int) false [2, 3, 4, 5, 6, 7, 8, 9, 11, 17, 18, 19, 20, 21, 22, 23, 24, 25, 26, 27, 28, 29, 30, 31, 32, 33, 34, 35, 36, 37, 38, 39, 40, 41, 42, 43, 44, 45, 46, 47, 48, 49, 50, 51, 52, 53, 54, 55, 56, 57, 58, 59, 60, 61, 62, 63, 64, 65, 66, 67, 68, 69, 70, 71, 72, 73, 74, 75, 76, 77, 78, 79, 80, 81, 82, 83, 84, 85, 86, 87, 88, 89, 90, 91, 92, 93] (fun σ => [gId (σ.get 11)]) (fun σ x => [(11, .c (.own (gId (σ.get 11)) (x.1).length false)), (17, I x.2)]) (fun σ x => [(gId (σ.get 11), some ⟨(x.1).map intC, 1, 3, true, false⟩)]) (fun (o, k) => 0) (fun σ => (gL intCd σ (σ.get 11), gI (σ.get 17))) (fun σ τ => [(gId (σ.get 11), gId (τ.get 11))]) (fun (o, k) => ((tbox w h t).l ≤ k ∧ k ≤ (tbox w h t).r) ∧ o = maskB L rl (tbox w h t) i ++ maskRow L rl (tbox w h t).l k i) (fun (o, k) => ((tbox w h t).r - k).toNat) ⟨by (simp (config := { maxSteps := 1000000 }) only [go_sem, ↓ifP_true, ↓ifP_false, ↓ifP_not, Nat.reduceLT, Nat.reduceAdd, Nat.reduceBEq, Nat.reduceSub, Nat.reduceLeDiff, Nat.reduceEqDiff, Nat.reduceMul, Int.reduceToNat, Int.reduceEq, Int.reduceLT, Int.reduceLE, Int.reduceAdd, Int.reduceSub, Int.reduceMul, reduceCtorEq, cond_true, cond_false, forall_eq', forall_eq, forall_const, implies_true, if_true, if_false, exists_eq_left', exists_eq', exists_eq, ne_eq, Try.f33, tb33_61, tb33_62, tb33_63, tb33_74, tb33_75, tb33_76, tb33_77, tb33_78, spTMask_q, spTMask_A, spTMask_pre, spTMask_post, spVRings_q, spVRings_A, spVRings_pre, spVRings_post, spIn_q, spIn_A, spIn_pre, spIn_post, spSzd_q, spSzd_A, spSzd_pre, spSzd_post, spTiles_q, spTiles_A, spTiles_pre, spTiles_post, spTb2_q, spTb2_A, spTb2_pre, spTb2_post, spTouch_q, spTouch_A, spTouch_pre, spTouch_post, spBack_q, spBack_A, spBack_pre, spBack_post, spTCov_q, spTCov_A, spTCov_pre, spTCov_post]; (repeat' (first | apply And.intro | (intro _) | omega | assumption | with_reducible rfl)); all_goals (first | omega | (rw [maskRow_0, List.append_nil]; exact hI.2))), ?_⟩
    rintro ⟨o, k⟩ hinv
    try dsimp only at hinv
    simp (config := { maxSteps := 1000000 }) only [go_sem, ↓ifP_true, ↓ifP_false, ↓ifP_not, Nat.reduceLT, Nat.reduceAdd, Nat.reduceBEq, Nat.reduceSub, Nat.reduceLeDiff, Nat.reduceEqDiff, Nat.reduceMul, Int.reduceToNat, Int.reduceEq, Int.reduceLT, Int.reduceLE, Int.reduceAdd, Int.reduceSub, Int.reduceMul, reduceCtorEq, cond_true, cond_false, forall_eq', forall_eq, forall_const, implies_true, if_true, if_false, exists_eq_left', exists_eq', exists_eq, ne_eq, Try.f33, tb33_61, tb33_62, tb33_63, tb33_74, tb33_75, tb33_76, tb33_77, tb33_78, spTMask_q, spTMask_A, spTMask_pre, spTMask_post, spVRings_q, spVRings_A, spVRings_pre, spVRings_post, spIn_q, spIn_A, spIn_pre, spIn_post, spSzd_q, spSzd_A, spSzd_pre, spSzd_post, spTiles_q, spTiles_A, spTiles_pre, spTiles_post, spTb2_q, spTb2_A, spTb2_pre, spTb2_post, spTouch_q, spTouch_A, spTouch_pre, spTouch_post, spBack_q, spBack_A, spBack_pre, spBack_post, spTCov_q, spTCov_A, spTCov_pre, spTCov_post]
    have hl2 : o.length = (maskB L rl (tbox w h t) i).length + (k - (tbox w h t).l).toNat := by rw [hinv.2, List.length_append, maskRow_len]
    repeat' (first | apply And.intro | (intro _) | omega | assumption | with_reducible rfl)
  all_goals (first | (omega; done) | (exact touch_ok hV _; done) | (exact backs_ok hV _ _; done) | ((rw [hinv.2, tcov_tile (by omega) (by omega) (by omega) (by omega), maskRow_step _ _ _ _ (by omega), List.append_assoc]); done) | ((rw [hinv.2, maskB_step _ _ _ (by omega), show k = (tbox w h t).r by omega]); done) | ((rw [tm_if hV (by simp only [isRl, decide_eq_true_eq]; omega) hT, hinv.2, show i = (tbox w h t).b by omega]); done) | ((rw [tm_no (.inr (.inr (isT_no1 ‹_›)))]; rfl); done) | ((rw [tm_no (.inr (.inr (isT_no2 ‹szd w h = false›)))]; rfl); done) | ((rw [tm_no (.inl ‹vRings L = false›)]; rfl); done) | ((rw [tm_no (.inr (.inl (by simp only [isRl, decide_eq_false_iff_not]; omega)))]; rfl); done))
theorem sat_spec_TileMask : Sat Try.prog rt0 33 (wkIn spTMask) := sat_in (sat_out sat_spec_TileMask_0)
end Go.Proofs.Ytdkfamajaopgoaa
end
section
set_option maxRecDepth 100000
set_option linter.unusedSimpArgs false
set_option linter.unusedVariables false
namespace Go.Proofs.Ytdkfamajaopgoaa
open Go Go.VE
def spDTM_A : (List UInt8) → List AV
  | code => [.c (.sl false (byC code))]
def spDTM_pre : (List UInt8) → Prop
  | code => code.length ≤ 1048576
def spDTM_post : (List UInt8) → AV → List Box → Prop
  | code, r, bs => ∃ L rl w h t, r = .tup [.c (.sl false (L.map lptC)), I rl, I w, I h, I t] ∧ bs = [] ∧ (L.length ≤ 9 ∧ total L ≤ 210 ∧ okLL L)
def spDTM : VE.Spec := famSpecS spDTM_A d_ly spDTM_pre spDTM_post 190 false
theorem spDTM_q : spDTM.flat = false ∧ spDTM.mt = [] ∧ spDTM.shut = true ∧ spDTM.cost = 190 ∧ (∀ a i, spDTM.pre a i = (i = [] ∧ famPre d_ly spDTM_A spDTM_pre a)) ∧ ∀ a i r b, spDTM.post a i r b = (famPost d_ly spDTM_post a r b) := ⟨rfl, rfl, rfl, rfl, fun _ _ => rfl, fun _ _ _ _ => rfl⟩
def tb31 : Nat → Option VE.Spec := tabOf [(46, wkIn spNew), (54, wkIn spARings), (55, wkIn spRule), (56, wkIn spSide9), (73, wkIn spTile)]
theorem tb31_46 : tb31 46 = some (wkIn spNew) := rfl
theorem tb31_54 : tb31 54 = some (wkIn spARings) := rfl
theorem tb31_55 : tb31 55 = some (wkIn spRule) := rfl
theorem tb31_56 : tb31 56 = some (wkIn spSide9) := rfl
theorem tb31_73 : tb31 73 = some (wkIn spTile) := rfl
theorem tb31_ok : TabOK Try.prog rt0 tb31 := (tabOf_cons (by kernel_rfl) sat_spec_newReader (tabOf_cons (by kernel_rfl) sat_spec_anyRings (tabOf_cons (by kernel_rfl) sat_spec_anyRule (tabOf_cons (by kernel_rfl) sat_spec_anySide (tabOf_cons (by kernel_rfl) sat_spec_someTile tabOf_nil)))))
set_option maxHeartbeats 4000000 in
theorem sat_spec_DrawTileMask_0 : Sat Try.prog rt0 31 (wkOut spDTM) := by
  refine fn_sat hm ttok (tab := tb31) tb31_ok Try.func31 (c := Try.f31.body.getD .skip) (by kernel_rfl) (ts := [.tmp 2, .tmp 3, .tmp 4, .tmp 5, .tmp 6]) (by kernel_rfl) Try.ntmps31 (sq := fun _ => true) (by kernel_rfl) ?_
  intro args ins pk hpre0 hpk
  obtain ⟨rfl, hpre0⟩ := hpre0
  obtain ⟨code, rfl, hpre, hdec⟩ := famPre_ex hpre0
  clear hpre0 hdec
  try simp only [spDTM_pre] at hpre
  replace hpk : pk + 190 ≤ pickLimit := hpk
  refine ⟨Nat.le_of_ble_eq_true rfl, ?_⟩
  simp (config := { maxSteps := 1000000 }) only [go_sem, ↓ifP_true, ↓ifP_false, ↓ifP_not, Nat.reduceLT, Nat.reduceAdd, Nat.reduceBEq, Nat.reduceSub, Nat.reduceLeDiff, Nat.reduceEqDiff, Nat.reduceMul, Int.reduceToNat, Int.reduceEq, Int.reduceLT, Int.reduceLE, Int.reduceAdd, Int.reduceSub, Int.reduceMul, reduceCtorEq, cond_true, cond_false, forall_eq', forall_eq, forall_const, implies_true, if_true, if_false, exists_eq_left', exists_eq', exists_eq, ne_eq, Try.f31, tb31_46, tb31_54, tb31_55, tb31_56, tb31_73, spDTM_q, spDTM_A, spDTM_pre, spDTM_post, spNew_q, spARings_q, spARings_A, spARings_pre, spARings_post, spRule_q, spRule_A, spRule_pre, spRule_post, spSide9_q, spSide9_A, spSide9_pre, spSide9_post, spTile_q, spTile_A, spTile_pre, spTile_post]
  repeat' (first | apply And.intro | (intro _) | omega | assumption | with_reducible rfl)
  all_goals (first | (exact ⟨_, _, rfl, rfl, hpre⟩; done) | (exact ⟨_, _, _, _, _, rfl, rfl, rfl, rfl, rfl, by assumption, by assumption, by assumption⟩; done))
theorem sat_spec_DrawTileMask : Sat Try.prog rt0 31 (wkIn spDTM) := sat_in (sat_out sat_spec_DrawTileMask_0)
theorem okTm_iff {L : List (List Pt)} {rl w h t : Int} : okTm L rl w h t = true ↔ vRings L = true ∧ isRl rl = true ∧ isT w h t = true := by
  simp [okTm, Bool.and_eq_true, and_assoc]
theorem tmV_le (L : List (List Pt)) (rl w h t : Int) : (tmV L rl w h t).length ≤ 144 := by
  by_cases H : okTm L rl w h t = true
  · obtain ⟨_, _, h1⟩ := okTm_iff.1 H
    have hx := tbox_rng h1
    rw [tmV, if_pos H, maskB_len]
    exact mask_small (by omega) (by omega)
  · rw [tmV, if_neg H]; simp
theorem tmV_pos {L : List (List Pt)} {rl w h t : Int} (H : ¬ ((tmV L rl w h t).length : Int) = 0) : okTm L rl w h t = true := by
  by_cases e : okTm L rl w h t = true
  · exact e
  · rw [tmV, if_neg e] at H; exact absurd rfl H
theorem tmV_rev (L : List (List Pt)) (rl w h t : Int) : tmV (revL L) rl w h t = tmV L rl w h t := by
  have e : okTm (revL L) rl w h t = okTm L rl w h t := by simp only [okTm, vRings_rev]
  simp only [tmV, e, maskB, maskRow, cov_rev]
theorem tmV_len {L : List (List Pt)} {rl w h t : Int} (H : okTm L rl w h t = true) : ((tmV L rl w h t).length : Int) = ((tbox w h t).r - (tbox w h t).l) * ((tbox w h t).b - (tbox w h t).t) := by
  obtain ⟨_, _, h1⟩ := okTm_iff.1 H
  have hp := tbox_pos h1
  rw [tmV, if_pos H, maskB_len, Int.natCast_mul, Int.toNat_of_nonneg (by omega), Int.toNat_of_nonneg (by omega), Int.mul_comm]
theorem tm_cov {L : List (List Pt)} {rl w h t i m : Int} (H : okTm L rl w h t = true) (h0 : 0 ≤ i) (hi : i < ((tmV L rl w h t).length : Int)) (hk : (tmV L rl w h t)[i.toNat]? = some m) :
    m = if okCov L rl ((tbox w h t).l + i.tmod ((tbox w h t).r - (tbox w h t).l)) ((tbox w h t).t + i.tdiv ((tbox w h t).r - (tbox w h t).l)) = true then cov L rl ((tbox w h t).l + i.tmod ((tbox w h t).r - (tbox w h t).l)) ((tbox w h t).t + i.tdiv ((tbox w h t).r - (tbox w h t).l)) else -1 := by
  obtain ⟨k1, k2, h1⟩ := okTm_iff.1 H
  have hp := tbox_pos h1
  have hx := tbox_rng h1
  rw [tmV_len H] at hi
  have hd := div_rng (w := (tbox w h t).r - (tbox w h t).l) (h := (tbox w h t).b - (tbox w h t).t) (by omega) h0 hi
  rw [Int.tmod_eq_emod_of_nonneg h0, Int.tdiv_eq_ediv_of_nonneg h0, if_pos (okCov_iff.2 ⟨k1, k2, by omega, by omega⟩)]
  rw [tmV, if_pos H, maskB_get L rl (tbox w h t) _ h0 hp.1 (by rw [Int.mul_comm]; exact hi)] at hk
  exact (Option.some.inj hk).symm
end Go.Proofs.Ytdkfamajaopgoaa
end
