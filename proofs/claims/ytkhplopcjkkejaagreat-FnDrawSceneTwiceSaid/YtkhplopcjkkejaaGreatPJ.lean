/- Contracts of functions of the program vectorraster, each proved for all states that fit its description. No conditions. -/
import Derived.Test.YtkhplopcjkkejaaGreatPA
import Derived.Test.YtkhplopcjkkejaaGreatPF
import Derived.Test.YtkhplopcjkkejaaGreatPD
import Derived.Test.YtkhplopcjkkejaaGreatKK
import Derived.Test.YtkhplopcjkkejaaGreatPC
import Derived.Test.YtkhplopcjkkejaaGreatPI
set_option linter.unusedSimpArgs false
set_option linter.unusedVariables false
section
set_option maxRecDepth 100000
set_option linter.unusedSimpArgs false
set_option linter.unusedVariables false
namespace Go.Proofs.YtkhplopcjkkejaaGreat
open Go Go.VE
theorem tbox_mul {w h t : Int} (hs : szd w h = true) (h0 : 0 ≤ t) (h1 : t < acr w * acr h) : t / acr w < acr h ∧ 0 ≤ t / acr w ∧ 0 ≤ t % acr w ∧ t % acr w < acr w := by
  have hm := acr_mul hs
  refine ⟨Int.ediv_lt_of_lt_mul (by omega) (by rw [Int.mul_comm]; exact h1), Int.ediv_nonneg h0 (by omega), Int.emod_nonneg _ (by omega), Int.emod_lt_of_pos _ (by omega)⟩
theorem tcnt_of {w h : Int} (hs : szd w h = true) : tcnt w h = acr w * acr h := if_pos hs
theorem isT_of {w h t : Int} : isT w h t = decide (0 ≤ t ∧ t ≤ tcnt w h - 1) := by
  unfold isT tcnt
  generalize acr w * acr h = q
  by_cases hs : szd w h = true
  · rw [if_pos hs, hs, Bool.true_and, decide_eq_decide]; omega
  · rw [if_neg hs, show szd w h = false by simpa using hs, Bool.false_and]
    symm
    rw [decide_eq_false_iff_not]
    omega
theorem isT_facts {w h t : Int} (ht : isT w h t = true) : (1 ≤ w ∧ w ≤ 12) ∧ (1 ≤ h ∧ h ≤ 12) ∧ szd w h = true ∧ (1 ≤ acr w ∧ acr w ≤ 3) ∧ (1 ≤ acr h ∧ acr h ≤ 3) ∧ 0 ≤ t ∧ t < acr w * acr h ∧ t ≤ 9 ∧ (0 ≤ t / acr w ∧ t / acr w < acr h) ∧ (0 ≤ t % acr w ∧ t % acr w < acr w) := by
  simp only [isT, Bool.and_eq_true, decide_eq_true_eq] at ht
  have h1 := acr_mul ht.1
  have h2 := tbox_mul ht.1 ht.2.1 ht.2.2
  have h3 := ht.1
  simp only [szd, decide_eq_true_eq] at h3
  exact ⟨h3.1, h3.2, ht.1, h1.1, h1.2.1, ht.2.1, ht.2.2, by omega, ⟨h2.2.1, h2.1⟩, h2.2.2⟩
def spTb_A : Int × Int × Int → List AV
  | (w, h, t) => [I w, I h, I t]
def spTb_pre : Int × Int × Int → Prop
  | (w, h, t) => True
def spTb_post : Int × Int × Int → AV → List Box → Prop
  | (w, h, t), r, bs => r = .tup [.agg (bxC (if isT w h t = true then tbox w h t else ⟨0, 0, 0, 0⟩)), B (isT w h t)] ∧ bs = []
def spTb : VE.Spec := famSpec spTb_A d_i_i_i spTb_pre spTb_post 0 true
theorem spTb_q : spTb.flat = true ∧ spTb.mt = [] ∧ spTb.shut = false ∧ spTb.cost = 0 ∧ (∀ a i, spTb.pre a i = (i = [] ∧ famPre d_i_i_i spTb_A spTb_pre a)) ∧ ∀ a i r b, spTb.post a i r b = (famPost d_i_i_i spTb_post a r b) := ⟨rfl, rfl, rfl, rfl, fun _ _ => rfl, fun _ _ _ _ => rfl⟩
theorem tcnt_bd (w h : Int) : -1 ≤ tcnt w h ∧ tcnt w h ≤ 9 := by
  unfold tcnt
  split
  · have := acr_mul ‹_›; omega
  · omega
def tb38 : Nat → Option VE.Spec := tabOf [(58, wkIn spIn), (43, wkIn spTc), (83, wkIn spAcr)]
theorem tb38_58 : tb38 58 = some (wkIn spIn) := rfl
theorem tb38_43 : tb38 43 = some (wkIn spTc) := rfl
theorem tb38_83 : tb38 83 = some (wkIn spAcr) := rfl
theorem tb38_ok : TabOK Tryz.prog rt0 tb38 := (tabOf_cons (by kernel_rfl) sat_impl_in (tabOf_cons (by kernel_rfl) sat_impl_TileCount (tabOf_cons (by kernel_rfl) sat_impl_across tabOf_nil)))
set_option maxHeartbeats 4000000 in
theorem sat_impl_TileBox_0 : Sat Tryz.prog rt0 38 (wkOut spTb) := by
  refine fn_sat hm ttok (tab := tb38) tb38_ok Tryz.func38 (c := Tryz.f38.body.getD .skip) (by kernel_rfl) (ts := [.cell 6 69, .tmp 7]) (by kernel_rfl) Tryz.ntmps38 (sq := fun id => !(id == 3)) (by kernel_rfl) ?_
  intro args ins pk hpre0 hpk
  obtain ⟨rfl, hpre0⟩ := hpre0
  obtain ⟨⟨w, h, t⟩, rfl, hpre, hdec⟩ := famPre_ex hpre0
  clear hpre0 hdec
  try simp only [spTb_pre] at hpre
  replace hpk : pk + 0 ≤ pickLimit := hpk
  refine ⟨Nat.le_of_ble_eq_true rfl, ?_⟩
  simp (config := { maxSteps := 1000000 }) only [go_sem, ↓ifP_true, ↓ifP_false, ↓ifP_not, Nat.reduceLT, Nat.reduceAdd, Nat.reduceBEq, Nat.reduceSub, Nat.reduceLeDiff, Nat.reduceEqDiff, Nat.reduceMul, Int.reduceToNat, Int.reduceEq, Int.reduceLT, Int.reduceLE, Int.reduceAdd, Int.reduceSub, Int.reduceMul, reduceCtorEq, cond_true, cond_false, forall_eq', forall_eq, forall_const, implies_true, if_true, if_false, exists_eq_left', exists_eq', exists_eq, ne_eq, Tryz.f38, tb38_58, tb38_43, tb38_83, spTb_q, spTb_A, spTb_pre, spTb_post, spIn_q, spIn_A, spIn_pre, spIn_post, spTc_q, spTc_A, spTc_pre, spTc_post, spAcr_q, spAcr_A, spAcr_pre, spAcr_post, tbox]
  have q := tcnt_bd w h
  have e := isT_of (w := w) (h := h) (t := t)
  cases ht : isT w h t with
  | false =>
    have n1 : ¬(0 ≤ t ∧ t ≤ tcnt w h - 1) := by rw [e] at ht; simpa using ht
    simp only [if_false, Bool.false_eq_true]
    repeat' (first | apply And.intro | (intro _) | omega | assumption | with_reducible rfl)
    all_goals rfl
  | true =>
    obtain ⟨f1, f2, f3, f4, f5, f6, f7, f8, f9, f10⟩ := isT_facts ht
    have e1 : t.tdiv (acr w) = t / acr w := tdiv_nn f6
    have e2 : t.tmod (acr w) = t % acr w := tmod_nn f6
    have n1 : 0 ≤ t ∧ t ≤ tcnt w h - 1 := by rw [e] at ht; simpa using ht
    repeat' (first | apply And.intro | (intro _) | omega | assumption | with_reducible rfl)
    all_goals (refine drawI (VE.Plan.first 0 (VE.Plan.first 1 (VE.Plan.first 5 (VE.Plan.first 6 (VE.Plan.alt 2 (VE.Plan.first 3 (VE.Plan.first 4 (VE.Plan.alt 7 (VE.Plan.first 8 (VE.Plan.first 9 (VE.Plan.alt 10 (VE.Plan.alt 11 VE.Plan.nil VE.Plan.nil) VE.Plan.nil))) VE.Plan.nil))) VE.Plan.nil))))) (by decide +kernel) ?_; simp (config := { maxSteps := 1000000 }) only [go_sem, planW, stepW, Tryz.f38, tb38_58, tb38_43, tb38_83, spTb_q, spTb_A, spTb_pre, spTb_post, spIn_q, spIn_A, spIn_pre, spIn_post, spTc_q, spTc_A, spTc_pre, spTc_post, spAcr_q, spAcr_A, spAcr_pre, spAcr_post, tbox, e1, e2, ↓ifP_true, ↓ifP_false, ↓ifP_not, Nat.reduceLT, Nat.reduceAdd, Nat.reduceBEq, Nat.reduceSub, Nat.reduceLeDiff, Nat.reduceEqDiff, Nat.reduceMul, Int.reduceToNat, Int.reduceEq, Int.reduceLT, Int.reduceLE, Int.reduceAdd, Int.reduceSub, Int.reduceMul, reduceCtorEq, cond_true, cond_false, forall_eq', forall_eq, forall_const, implies_true, if_true, if_false, exists_eq_left', exists_eq', exists_eq, ne_eq])
    repeat' (first | apply And.intro | (intro _) | omega | assumption | with_reducible rfl)
    all_goals first | rfl | exact ht.symm | (rw [if_pos ht]; rfl)
  all_goals (first | (simp_all; done) | (grind; done))
theorem sat_impl_TileBox : Sat Tryz.prog rt0 38 (wkIn spTb) := sat_in (sat_out sat_impl_TileBox_0)
def spTiles_A : Int × Int → List AV
  | (w, h) => [I w, I h]
def spTiles_pre : Int × Int → Prop
  | (w, h) => szd w h = true
def spTiles_post : Int × Int → AV → List Box → Prop
  | (w, h), r, bs => r = I (acr w * acr h) ∧ bs = []
def spTiles : VE.Spec := famSpec spTiles_A d_i_i spTiles_pre spTiles_post 0 true
theorem spTiles_q : spTiles.flat = true ∧ spTiles.mt = [] ∧ spTiles.shut = false ∧ spTiles.cost = 0 ∧ (∀ a i, spTiles.pre a i = (i = [] ∧ famPre d_i_i spTiles_A spTiles_pre a)) ∧ ∀ a i r b, spTiles.post a i r b = (famPost d_i_i spTiles_post a r b) := ⟨rfl, rfl, rfl, rfl, fun _ _ => rfl, fun _ _ _ _ => rfl⟩
def tb81 : Nat → Option VE.Spec := tabOf []
theorem tb81_ok : TabOK Tryz.prog rt0 tb81 := tabOf_nil
set_option maxHeartbeats 4000000 in
theorem sat_spec_tiles_0 : Sat Tryz.prog rt0 81 (wkOut spTiles) := by
  refine fn_sat hm ttok (tab := tb81) tb81_ok Tryz.func81 (c := Tryz.f81.body.getD .skip) (by kernel_rfl) (ts := [.tmp 4]) (by kernel_rfl) Tryz.ntmps81 (sq := fun _ => true) (by kernel_rfl) ?_
  intro args ins pk hpre0 hpk
  obtain ⟨rfl, hpre0⟩ := hpre0
  obtain ⟨⟨w, h⟩, rfl, hpre, hdec⟩ := famPre_ex hpre0
  clear hpre0 hdec
  try simp only [spTiles_pre] at hpre
  replace hpk : pk + 0 ≤ pickLimit := hpk
  refine ⟨Nat.le_of_ble_eq_true rfl, ?_⟩
  simp (config := { maxSteps := 1000000 }) only [go_sem, ↓ifP_true, ↓ifP_false, ↓ifP_not, Nat.reduceLT, Nat.reduceAdd, Nat.reduceBEq, Nat.reduceSub, Nat.reduceLeDiff, Nat.reduceEqDiff, Nat.reduceMul, Int.reduceToNat, Int.reduceEq, Int.reduceLT, Int.reduceLE, Int.reduceAdd, Int.reduceSub, Int.reduceMul, reduceCtorEq, cond_true, cond_false, forall_eq', forall_eq, forall_const, implies_true, if_true, if_false, exists_eq_left', exists_eq', exists_eq, ne_eq, Tryz.f81, spTiles_q, spTiles_A, spTiles_pre, spTiles_post]
  have hm := acr_mul hpre
  simp only [szd, decide_eq_true_eq] at hpre
  have e1 : (w + 3).tdiv 4 = acr w := tdiv_nn (by omega)
  have e2 : (h + 3).tdiv 4 = acr h := tdiv_nn (by omega)
  simp only [show w + 4 - 1 = w + 3 by omega, show h + 4 - 1 = h + 3 by omega, e1, e2]
  repeat' (first | apply And.intro | (intro _) | omega | assumption | with_reducible rfl)
  all_goals (first | (simp_all; done) | (grind; done))
theorem sat_spec_tiles : Sat Tryz.prog rt0 81 (wkIn spTiles) := sat_in (sat_out sat_spec_tiles_0)
def spTb2_A : Int × Int × Int → List AV
  | (w, h, t) => [I w, I h, I t]
def spTb2_pre : Int × Int × Int → Prop
  | (w, h, t) => isT w h t = true
def spTb2_post : Int × Int × Int → AV → List Box → Prop
  | (w, h, t), r, bs => r = .agg (bxC (tbox w h t)) ∧ bs = []
def spTb2 : VE.Spec := famSpec spTb2_A d_i_i_i spTb2_pre spTb2_post 0 true
theorem spTb2_q : spTb2.flat = true ∧ spTb2.mt = [] ∧ spTb2.shut = false ∧ spTb2.cost = 0 ∧ (∀ a i, spTb2.pre a i = (i = [] ∧ famPre d_i_i_i spTb2_A spTb2_pre a)) ∧ ∀ a i r b, spTb2.post a i r b = (famPost d_i_i_i spTb2_post a r b) := ⟨rfl, rfl, rfl, rfl, fun _ _ => rfl, fun _ _ _ _ => rfl⟩
def tb131 : Nat → Option VE.Spec := tabOf []
theorem tb131_ok : TabOK Tryz.prog rt0 tb131 := tabOf_nil
set_option maxHeartbeats 4000000 in
theorem sat_spec_tileBox_0 : Sat Tryz.prog rt0 131 (wkOut spTb2) := by
  refine fn_sat hm ttok (tab := tb131) tb131_ok Tryz.func131 (c := Tryz.f131.body.getD .skip) (by kernel_rfl) (ts := [.cell 6 69]) (by kernel_rfl) Tryz.ntmps131 (sq := fun _ => true) (by kernel_rfl) ?_
  intro args ins pk hpre0 hpk
  obtain ⟨rfl, hpre0⟩ := hpre0
  obtain ⟨⟨w, h, t⟩, rfl, hpre, hdec⟩ := famPre_ex hpre0
  clear hpre0 hdec
  try simp only [spTb2_pre] at hpre
  replace hpk : pk + 0 ≤ pickLimit := hpk
  refine ⟨Nat.le_of_ble_eq_true rfl, ?_⟩
  simp (config := { maxSteps := 1000000 }) only [go_sem, ↓ifP_true, ↓ifP_false, ↓ifP_not, Nat.reduceLT, Nat.reduceAdd, Nat.reduceBEq, Nat.reduceSub, Nat.reduceLeDiff, Nat.reduceEqDiff, Nat.reduceMul, Int.reduceToNat, Int.reduceEq, Int.reduceLT, Int.reduceLE, Int.reduceAdd, Int.reduceSub, Int.reduceMul, reduceCtorEq, cond_true, cond_false, forall_eq', forall_eq, forall_const, implies_true, if_true, if_false, exists_eq_left', exists_eq', exists_eq, ne_eq, Tryz.f131, spTb2_q, spTb2_A, spTb2_pre, spTb2_post, tbox]
  obtain ⟨f1, f2, f3, f4, f5, f6, f7, f8, f9, f10⟩ := isT_facts hpre
  have e0 : (w + 3).tdiv 4 = acr w := tdiv_nn (by omega)
  have e1 : t.tdiv (acr w) = t / acr w := tdiv_nn f6
  have e2 : t.tmod (acr w) = t % acr w := tmod_nn f6
  simp only [show w + 4 - 1 = w + 3 by omega, e0, e1, e2, tbox]
  repeat' (first | apply And.intro | (intro _) | omega | assumption | with_reducible rfl)
  all_goals (first | (simp_all; done) | (grind; done))
theorem sat_spec_tileBox : Sat Tryz.prog rt0 131 (wkIn spTb2) := sat_in (sat_out sat_spec_tileBox_0)
end Go.Proofs.YtkhplopcjkkejaaGreat
end
section
set_option maxRecDepth 100000
set_option linter.unusedSimpArgs false
set_option linter.unusedVariables false
namespace Go.Proofs.YtkhplopcjkkejaaGreat
open Go Go.VE
def hits (b : Bx) (e : Edge) : Bool := decide (e.p.y ≠ e.q.y ∧ 16 * b.l ≤ max e.p.x e.q.x ∧ min e.p.x e.q.x < 16 * b.r ∧ 16 * b.t < max e.p.y e.q.y ∧ min e.p.y e.q.y < 16 * b.b)
def touchE (L : List (List Pt)) (b : Bx) : List Edge := (edgesOf L).filter (hits b)
def edOk (L : List (List Pt)) (w h t : Int) : Bool := vRings L && isT w h t
theorem filt_yes {es : List Edge} {i : Int} {e : Edge} {b : Bx} (hk : es[i.toNat]? = some e) (h0 : 0 ≤ i) (h : hits b e = true) : (es.take (i + 1).toNat).filter (hits b) = (es.take i.toNat).filter (hits b) ++ [e] := by
  rw [takeN hk h0, List.filter_append, List.filter_cons_of_pos h]; rfl
theorem filt_no {es : List Edge} {i : Int} {e : Edge} {b : Bx} (hk : es[i.toNat]? = some e) (h0 : 0 ≤ i) (h : hits b e = false) : (es.take (i + 1).toNat).filter (hits b) = (es.take i.toNat).filter (hits b) := by
  rw [takeN hk h0, List.filter_append, List.filter_cons_of_neg (by rw [h]; exact Bool.false_ne_true)]; exact List.append_nil _
theorem touch_len {L : List (List Pt)} (h : vRings L = true) (b : Bx) : (touchE L b).length ≤ 200 := by
  have h1 := List.length_filter_le (hits b) (edgesOf L)
  have h2 := edges_len h
  unfold touchE; omega
theorem bnd2 (p q : Pt) : bnd [p, q] = ⟨min p.x q.x, min p.y q.y, max p.x q.x, max p.y q.y⟩ := by
  simp only [bnd, List.foldl_cons, List.foldl_nil, bnd1, Bx.mk.injEq]; omega
theorem touch_part {L : List (List Pt)} {i k : Int} {r : List Pt} {b : Bx} (h : vRings L = true) (hr : L[i.toNat]? = some r) : ((edgesOf (L.take i.toNat)).filter (hits b) ++ ((ringE r).take k.toNat).filter (hits b)).length ≤ 200 := by
  have h1 := List.length_filter_le (hits b) (edgesOf (L.take i.toNat))
  have h2 := List.length_filter_le (hits b) ((ringE r).take k.toNat)
  have h3 := total_mem hr
  have h4 := (vRings_len h).2
  rw [edgesOf_len] at h1
  rw [List.length_take, ringE_len] at h2
  rw [List.length_append]; omega
theorem tbox_rng {w h t : Int} (H : isT w h t = true) : (0 ≤ (tbox w h t).l ∧ (tbox w h t).l ≤ 12) ∧ (0 ≤ (tbox w h t).t ∧ (tbox w h t).t ≤ 12) ∧ (0 ≤ (tbox w h t).r ∧ (tbox w h t).r ≤ 12) ∧ 0 ≤ (tbox w h t).b ∧ (tbox w h t).b ≤ 12 := by
  obtain ⟨f1, f2, f3, f4, f5, f6, f7, f8, f9, f10⟩ := isT_facts H
  have hs : szd w h = true := by simp only [isT, Bool.and_eq_true] at H; exact H.1
  simp only [szd, decide_eq_true_eq] at hs
  simp only [tbox]
  omega
def spTouch_A : (List (List Pt)) × Bx → List AV
  | (L, b) => [.c (.sl false (L.map lptC)), .agg (bxC b)]
def spTouch_pre : (List (List Pt)) × Bx → Prop
  | (L, b) => vRings L = true ∧ (-1000 ≤ b.l ∧ b.l ≤ 1000) ∧ (-1000 ≤ b.t ∧ b.t ≤ 1000) ∧ (-1000 ≤ b.r ∧ b.r ≤ 1000) ∧ -1000 ≤ b.b ∧ b.b ≤ 1000
def spTouch_post : (List (List Pt)) × Bx → AV → List Box → Prop
  | (L, b), r, bs => r = .c (.own 0 (touchE L b).length false) ∧ bs = [⟨(touchE L b).map edC, 4, 141, true, false⟩]
def spTouch : VE.Spec := famSpec spTouch_A d_llpt_bx spTouch_pre spTouch_post 0 true
theorem spTouch_q : spTouch.flat = true ∧ spTouch.mt = [] ∧ spTouch.shut = false ∧ spTouch.cost = 0 ∧ (∀ a i, spTouch.pre a i = (i = [] ∧ famPre d_llpt_bx spTouch_A spTouch_pre a)) ∧ ∀ a i r b, spTouch.post a i r b = (famPost d_llpt_bx spTouch_post a r b) := ⟨rfl, rfl, rfl, rfl, fun _ _ => rfl, fun _ _ _ _ => rfl⟩
def spEdIn_A : (List (List Pt)) × Int × Int × Int → List AV
  | (L, w, h, t) => [.c (.sl false (L.map lptC)), I w, I h, I t]
def spEdIn_pre : (List (List Pt)) × Int × Int × Int → Prop
  | (L, w, h, t) => L.length ≤ 1000000000 ∧ total L ≤ 1000000000
def spEdIn_post : (List (List Pt)) × Int × Int × Int → AV → List Box → Prop
  | (L, w, h, t), r, bs => r = .c (.sl false (((if edOk L w h t = true then touchE L (tbox w h t) else [])).map edC)) ∧ bs = []
def spEdIn : VE.Spec := famSpecS spEdIn_A d_llpt_i_i_i spEdIn_pre spEdIn_post 0 false
theorem spEdIn_q : spEdIn.flat = false ∧ spEdIn.mt = [] ∧ spEdIn.shut = true ∧ spEdIn.cost = 0 ∧ (∀ a i, spEdIn.pre a i = (i = [] ∧ famPre d_llpt_i_i_i spEdIn_A spEdIn_pre a)) ∧ ∀ a i r b, spEdIn.post a i r b = (famPost d_llpt_i_i_i spEdIn_post a r b) := ⟨rfl, rfl, rfl, rfl, fun _ _ => rfl, fun _ _ _ _ => rfl⟩
def spClipE_A : List Edge → List AV := fun l => [.c (.own 0 l.length false)]
def spClipE_B : List Edge → List Box := fun l => [⟨l.map edC, 4, 141, true, false⟩]
def spClipE_d : List AV → List Box → Option (List Edge)
  | [.c (.own 0 _ false)], [⟨es, _, _, _, _⟩] => decAll edCd es
  | _, _ => none
def spClipE_pre : List Edge → Prop := fun l => l.length ≤ 1000000000
def spClipE_post : List Edge → AV → List Box → Prop := fun l r bs => r = .c (.own 0 (l).length false) ∧ bs = [⟨(l).map edC, 4, 141, true, false⟩]
def spClipE : VE.Spec := famSpecM spClipE_A spClipE_B spClipE_d spClipE_pre spClipE_post 0 false [true] false
theorem spClipE_q : spClipE.flat = false ∧ spClipE.mt = [true] ∧ spClipE.shut = false ∧ spClipE.cost = 0 ∧ (∀ a i, spClipE.pre a i = (famPreM spClipE_d spClipE_A spClipE_B spClipE_pre a i)) ∧ ∀ a i r b, spClipE.post a i r b = (famPostM spClipE_d spClipE_post a i r b) := ⟨rfl, rfl, rfl, rfl, fun _ _ => rfl, fun _ _ _ _ => rfl⟩
end Go.Proofs.YtkhplopcjkkejaaGreat
end
section
set_option maxRecDepth 100000
set_option linter.unusedSimpArgs false
set_option linter.unusedVariables false
namespace Go.Proofs.YtkhplopcjkkejaaGreat
open Go Go.VE
end Go.Proofs.YtkhplopcjkkejaaGreat
end
section
set_option maxRecDepth 100000
set_option linter.unusedSimpArgs false
set_option linter.unusedVariables false
namespace Go.Proofs.YtkhplopcjkkejaaGreat
open Go Go.VE
end Go.Proofs.YtkhplopcjkkejaaGreat
end
section
set_option maxRecDepth 100000
set_option linter.unusedSimpArgs false
set_option linter.unusedVariables false
namespace Go.Proofs.YtkhplopcjkkejaaGreat
open Go Go.VE
theorem isT_yes {w h t : Int} (hs : szd w h = true) (h0 : 0 ≤ t) (h1 : t ≤ acr w * acr h - 1) : isT w h t = true := by
  simp only [isT, hs, Bool.true_and, decide_eq_true_eq]; omega
theorem isT_no1 {w h t : Int} (h1 : ¬ (0 ≤ t ∧ t ≤ acr w * acr h - 1)) : isT w h t = false := by
  simp only [isT, Bool.and_eq_false_iff, decide_eq_false_iff_not]; right; omega
theorem isT_no2 {w h t : Int} (h1 : szd w h = false) : isT w h t = false := by rw [isT, h1]; rfl
theorem acr_rng {w h : Int} (hs : szd w h = true) : 1 ≤ acr w * acr h ∧ acr w * acr h ≤ 9 := by
  have := acr_mul hs
  omega
end Go.Proofs.YtkhplopcjkkejaaGreat
end
section
set_option maxRecDepth 100000
set_option linter.unusedSimpArgs false
set_option linter.unusedVariables false
namespace Go.Proofs.YtkhplopcjkkejaaGreat
open Go Go.VE
theorem eqL_step {α : Type} {a b : List α} {i : Int} {x y : α} (ha : a[i.toNat]? = some x) (hb : b[i.toNat]? = some y) (e : x = y) (h0 : 0 ≤ i) (h : a.take i.toNat = b.take i.toNat) : a.take (i + 1).toNat = b.take (i + 1).toNat := by
  subst e; rw [takeN ha h0, takeN hb h0, h]
theorem eqL_no {α : Type} {a b : List α} {i : Int} {x y : α} (ha : a[i.toNat]? = some x) (hb : b[i.toNat]? = some y) (h : x ≠ y) : a ≠ b := fun e => by
  rw [e, hb] at ha; exact h (Option.some.inj ha).symm
theorem eqL_end {α : Type} {a b : List α} {i : Int} (hl : (a.length : Int) = b.length) (hi : ¬ i < (a.length : Int)) (h : a.take i.toNat = b.take i.toNat) : a = b := by
  rwa [takeA (by omega), takeA (by omega)] at h
theorem eqL_len {α : Type} {a b : List α} (hl : ¬ (a.length : Int) = b.length) : a ≠ b := fun e => hl (by rw [e])
def spEqE_A : (List Edge) × (List Edge) → List AV
  | (a, b) => [.c (.sl false (a.map edC)), .c (.sl false (b.map edC))]
def spEqE_pre : (List Edge) × (List Edge) → Prop
  | (a, b) => a.length ≤ 1000000000 ∧ b.length ≤ 1000000000
def spEqE_post : (List Edge) × (List Edge) → AV → List Box → Prop
  | (a, b), r, bs => r = B (decide (a = b)) ∧ bs = []
def spEqE : VE.Spec := famSpec spEqE_A d_led_led spEqE_pre spEqE_post 0 true
theorem spEqE_q : spEqE.flat = true ∧ spEqE.mt = [] ∧ spEqE.shut = false ∧ spEqE.cost = 0 ∧ (∀ a i, spEqE.pre a i = (i = [] ∧ famPre d_led_led spEqE_A spEqE_pre a)) ∧ ∀ a i r b, spEqE.post a i r b = (famPost d_led_led spEqE_post a r b) := ⟨rfl, rfl, rfl, rfl, fun _ _ => rfl, fun _ _ _ _ => rfl⟩
end Go.Proofs.YtkhplopcjkkejaaGreat
end
section
set_option maxRecDepth 100000
set_option linter.unusedSimpArgs false
set_option linter.unusedVariables false
namespace Go.Proofs.YtkhplopcjkkejaaGreat
open Go Go.VE
def swE (e : Edge) : Edge := ⟨e.q, e.p⟩
def pe : List Pt → List Edge
  | a :: b :: r => ⟨a, b⟩ :: pe (b :: r)
  | _ => []
theorem pe_snoc : ∀ (l : List Pt) (x : Pt), l ≠ [] → pe (l ++ [x]) = pe l ++ [⟨l.getLastD default, x⟩]
  | [], _, h => absurd rfl h
  | [a], x, _ => rfl
  | a :: b :: r, x, _ => by
    have := pe_snoc (b :: r) x (List.cons_ne_nil _ _)
    simp only [List.cons_append, pe] at *
    rw [this]; rfl
theorem pe_rev : ∀ l : List Pt, pe l.reverse = (pe l).reverse.map swE
  | [] => rfl
  | [a] => rfl
  | a :: b :: r => by
    have := pe_rev (b :: r)
    rw [List.reverse_cons, pe_snoc _ _ (by simp), this]
    simp only [pe, List.reverse_cons, List.map_append, List.map_cons, List.map_nil, swE]
    congr 3
    simp [List.getLastD_eq_getLast?]
theorem zip_pe : ∀ (a : Pt) (t : List Pt) (z : Pt), ((a :: t).zip (t ++ [z])).map (fun p => (⟨p.1, p.2⟩ : Edge)) = pe (a :: t) ++ [⟨(a :: t).getLastD default, z⟩]
  | a, [], z => rfl
  | a, b :: r, z => by
    have := zip_pe b r z
    simp only [List.cons_append, List.zip_cons_cons, List.map_cons, pe] at *
    rw [this]; rfl
theorem ringE_pe (a : Pt) (t : List Pt) : ringE (a :: t) = pe (a :: t) ++ [⟨(a :: t).getLastD default, a⟩] := by
  simp only [ringE, List.drop_succ_cons, List.drop_zero, List.take_succ_cons, List.take_zero]
  exact zip_pe a t a
theorem ringE_of {l : List Pt} (h : l ≠ []) : ringE l = pe l ++ [⟨l.getLastD default, l.headD default⟩] := by
  cases l with
  | nil => exact absurd rfl h
  | cons a t => exact ringE_pe a t
theorem ringE_rev (r : List Pt) : (ringE r.reverse).Perm ((ringE r).map swE) := by
  cases r with
  | nil => exact List.Perm.refl _
  | cons a t =>
    rw [ringE_of (by simp), ringE_of (by simp), pe_rev, List.map_append, List.map_reverse]
    refine List.Perm.append (List.reverse_perm _) ?_
    simp only [List.map_cons, List.map_nil, swE]
    have h1 : (a :: t).reverse.getLastD default = (a :: t).headD default := by simp [List.getLastD_eq_getLast?]
    have h2 : (a :: t).reverse.headD default = (a :: t).getLastD default := by
      rw [List.getLastD_eq_getLast?, List.headD_eq_head?_getD, List.head?_reverse]
    rw [h1, h2]
def revL (L : List (List Pt)) : List (List Pt) := L.map List.reverse
theorem edges_rev (L : List (List Pt)) : (edgesOf (revL L)).Perm ((edgesOf L).map swE) := by
  induction L with
  | nil => exact List.Perm.refl _
  | cons r L ih =>
    simp only [edgesOf, revL, List.map_cons, List.flatMap_cons, List.map_append] at *
    exact (ringE_rev r).append ih
theorem hits_sw (b : Bx) (e : Edge) : hits b (swE e) = hits b e := by
  unfold hits swE
  dsimp only
  exact decide_eq_decide.2 ⟨fun ⟨h1, h2, h3, h4, h5⟩ => ⟨fun e => h1 e.symm, by omega, by omega, by omega, by omega⟩, fun ⟨h1, h2, h3, h4, h5⟩ => ⟨fun e => h1 e.symm, by omega, by omega, by omega, by omega⟩⟩
theorem touch_rev (L : List (List Pt)) (b : Bx) : (touchE (revL L) b).length = (touchE L b).length := by
  have h := (edges_rev L).filter (hits b)
  have h2 := h.length_eq
  unfold touchE
  rw [h2, List.filter_map, List.length_map]
  congr 1
  exact List.filter_congr fun e _ => hits_sw b e
theorem vRing_rev (r : List Pt) : vRing r.reverse = vRing r := by
  simp only [vRing_iff, vPts, List.length_reverse, List.all_reverse]
theorem revL_len (L : List (List Pt)) : (revL L).length = L.length := List.length_map _
theorem revL_total (L : List (List Pt)) : total (revL L) = total L := by
  simp only [total, revL, List.map_map]; congr 1
  exact List.map_congr_left fun r _ => List.length_reverse
theorem vRings_rev (L : List (List Pt)) : vRings (revL L) = vRings L := by
  simp only [vRings, revL_len, revL_total]
  congr 2
  simp only [revL, List.all_map]
  exact congrArg (L.all ·) (funext vRing_rev)
theorem stepE_sw (e : Edge) (y : Int) : stepE (swE e) y = -stepE e y := by
  simp only [stepE, swE]
  repeat' split
  all_goals omega
theorem con_sw (e : Edge) (x y : Int) : con (swE e) x y = -con e x y := by
  by_cases hd : e.q.y = e.p.y
  · have h0 : stepE e y = 0 := by unfold stepE; split <;> (try split) <;> omega
    rw [con_0 h0, con_0 (by rw [stepE_sw, h0]; rfl)]; rfl
  · have hl : leftE (swE e) x y = leftE e x y := by
      have h1 : (e.p.x - e.q.x) * (y - e.q.y) - (x - e.q.x) * (e.p.y - e.q.y) = -((e.q.x - e.p.x) * (y - e.p.y) - (x - e.p.x) * (e.q.y - e.p.y)) := by grind
      simp only [leftE, swE, h1, decide_eq_decide]
      generalize (e.q.x - e.p.x) * (y - e.p.y) - (x - e.p.x) * (e.q.y - e.p.y) = u
      split <;> split <;> omega
    unfold con
    rw [hl, stepE_sw]
    split <;> rfl
theorem sum_perm {a b : List Int} (h : a.Perm b) : a.sum = b.sum := by
  induction h with
  | nil => rfl
  | cons x _ ih => simp [ih]
  | swap x y l => simp only [List.sum_cons]; omega
  | trans _ _ h1 h2 => rw [h1, h2]
theorem wind_rev (L : List (List Pt)) (x y : Int) : wind (revL L) x y = -wind L x y := by
  unfold wind windE
  rw [sum_perm ((edges_rev L).map _), List.map_map]
  have e : ((fun e => con e x y) ∘ swE) = fun e => -con e x y := funext fun e => con_sw e x y
  rw [e]
  induction edgesOf L with
  | nil => rfl
  | cons a l ih => simp only [List.map_cons, List.sum_cons, ih]; omega
theorem insN_neg (n rl : Int) : insN (-n) rl = insN n rl := by
  unfold insN
  split
  · rw [decide_eq_decide]; omega
  · rw [decide_eq_decide]; omega
theorem cov_rev (L : List (List Pt)) (rl c w : Int) : cov (revL L) rl c w = cov L rl c w := by
  simp only [cov, ins1, wind_rev, insN_neg]
def spRev_A : (List (List Pt)) → List AV
  | L => [.c (.sl false (L.map lptC))]
def spRev_pre : (List (List Pt)) → Prop
  | L => L.length ≤ 1000000 ∧ total L ≤ 1000000
def spRev_post : (List (List Pt)) → AV → List Box → Prop
  | L, r, bs => r = .c (.sl false (((revL L)).map lptC)) ∧ bs = []
def spRev : VE.Spec := famSpecS spRev_A d_llpt spRev_pre spRev_post 0 false
theorem spRev_q : spRev.flat = false ∧ spRev.mt = [] ∧ spRev.shut = true ∧ spRev.cost = 0 ∧ (∀ a i, spRev.pre a i = (i = [] ∧ famPre d_llpt spRev_A spRev_pre a)) ∧ ∀ a i r b, spRev.post a i r b = (famPost d_llpt spRev_post a r b) := ⟨rfl, rfl, rfl, rfl, fun _ _ => rfl, fun _ _ _ _ => rfl⟩
end Go.Proofs.YtkhplopcjkkejaaGreat
end
section
set_option maxRecDepth 100000
set_option linter.unusedSimpArgs false
set_option linter.unusedVariables false
namespace Go.Proofs.YtkhplopcjkkejaaGreat
open Go Go.VE
end Go.Proofs.YtkhplopcjkkejaaGreat
end
