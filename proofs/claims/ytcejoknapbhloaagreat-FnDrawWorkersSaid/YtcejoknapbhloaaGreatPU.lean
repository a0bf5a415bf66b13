/- Contracts of functions of the program vectorraster, each proved for all states that fit its description. No conditions. -/
import Derived.Test.YtcejoknapbhloaaGreatPS
import Derived.Test.YtcejoknapbhloaaGreatKT
import Derived.Test.YtcejoknapbhloaaGreatPT
import Derived.Test.YtcejoknapbhloaaGreatPR
import Derived.Test.YtcejoknapbhloaaGreatPO
import Derived.Test.YtcejoknapbhloaaGreatPF
import Derived.Test.YtcejoknapbhloaaGreatKK
import Derived.Test.YtcejoknapbhloaaGreatPH
set_option linter.unusedSimpArgs false
set_option linter.unusedVariables false
set_option maxRecDepth 100000
namespace Go.Proofs.YtcejoknapbhloaaGreat
open Go Go.VE
def pixRow (fs : List Fil) (w : Nat) (r : Int) : List Colr := (List.range w).map fun c : Nat => pixF fs c r
def pixAll (fs : List Fil) (w h : Nat) : List Colr := (List.range h).flatMap fun r : Nat => pixRow fs w r
def drawV (s : Scn) : List Colr := if vScn s = true then pixAll s.fs s.w.toNat s.h.toNat else []
theorem pixRow_len (fs : List Fil) (w : Nat) (r : Int) : (pixRow fs w r).length = w := by simp [pixRow]
theorem pixRow_step (fs : List Fil) (r : Int) {k : Int} (h : 0 ≤ k) : pixRow fs (k + 1).toNat r = pixRow fs k.toNat r ++ [pixF fs k r] := by
  rw [show (k + 1).toNat = k.toNat + 1 by omega, pixRow, List.range_succ, List.map_append]
  simp only [List.map_cons, List.map_nil, Int.toNat_of_nonneg h]; rfl
theorem pixAll_step (fs : List Fil) (w : Nat) {i : Int} (h : 0 ≤ i) : pixAll fs w (i + 1).toNat = pixAll fs w i.toNat ++ pixRow fs w i := by
  rw [show (i + 1).toNat = i.toNat + 1 by omega, pixAll, List.range_succ, List.flatMap_append]
  simp only [List.flatMap_cons, List.flatMap_nil, List.append_nil, Int.toNat_of_nonneg h]; rfl
theorem pixAll_len (fs : List Fil) (w h : Nat) : (pixAll fs w h).length = h * w := by
  induction h with
  | zero => simp [pixAll]
  | succ h ih =>
    have := pixAll_step fs w (i := (h : Int)) (by omega)
    rw [show ((h : Int) + 1).toNat = h + 1 by omega, Int.toNat_natCast] at this
    rw [this, List.length_append, ih, pixRow_len, Nat.succ_mul]
theorem sq144 {m n : Nat} (h1 : m ≤ 12) (h2 : n ≤ 12) : m * n ≤ 144 := Nat.mul_le_mul h1 h2
theorem szd_r {w h : Int} (hz : szd w h = true) : (1 ≤ w ∧ w ≤ 12) ∧ 1 ≤ h ∧ h ≤ 12 := by simpa only [szd, decide_eq_true_eq] using hz
theorem wh_bd {w h : Int} (hz : szd w h = true) : 1 ≤ w * h ∧ w * h ≤ 144 := by
  have hr := szd_r hz
  have h1 := Int.mul_le_mul hr.1.2 hr.2.2 (by omega) (by omega)
  have h2 := Int.mul_le_mul hr.1.1 hr.2.1 (by omega) (by omega)
  omega
theorem pixAll_bd (fs : List Fil) {s : Scn} (hz : szd s.w s.h = true) {i : Int} (h1 : i ≤ s.h) : (pixAll fs s.w.toNat i.toNat).length ≤ 144 := by
  have hr := szd_r hz
  rw [pixAll_len]
  exact sq144 (by omega) (by omega)
theorem drawV_len (s : Scn) : (drawV s).length ≤ 144 := by
  unfold drawV
  split
  · exact pixAll_bd _ (vScn_parts ‹_›).1 (Int.le_refl _)
  · simp
theorem pixAll_get (fs : List Fil) (w : Nat) (h i : Nat) (hw : 0 < w) (hi : i < h * w) : (pixAll fs w h)[i]? = some (pixF fs ((i % w : Nat) : Int) ((i / w : Nat) : Int)) := by
  induction h with
  | zero => simp at hi
  | succ h ih =>
    have e := pixAll_step fs w (i := (h : Int)) (by omega)
    rw [show ((h : Int) + 1).toNat = h + 1 by omega, Int.toNat_natCast] at e
    rw [e]
    by_cases hl : i < h * w
    · rw [List.getElem?_append_left (by rw [pixAll_len]; exact hl)]
      exact ih hl
    · rw [List.getElem?_append_right (by rw [pixAll_len]; omega), pixAll_len]
      have hlt : i - h * w < w := by rw [Nat.succ_mul] at hi; omega
      have hd : i / w = h := Nat.div_eq_of_lt_le (by omega) hi
      have hm : i % w = i - h * w := by
        have := Nat.div_add_mod i w
        rw [hd, Nat.mul_comm] at this; omega
      rw [hd, hm]
      simp only [pixRow, List.getElem?_map, List.getElem?_range hlt, Option.map_some]
def spDraw_A : Scn → List AV
  | s => [.agg (scC s)]
def spDraw_pre : Scn → Prop
  | s => okFs s.fs ∧ vScn s = true
def spDraw_post : Scn → AV → List Box → Prop
  | s, r, bs => r = .c (.own 0 (pixAll s.fs s.w.toNat s.h.toNat).length false) ∧ bs = [⟨(pixAll s.fs s.w.toNat s.h.toNat).map coC, 4, 66, true, false⟩]
def spDraw : VE.Spec := famSpec spDraw_A d_sc spDraw_pre spDraw_post 0 true
theorem spDraw_q : SpQ spDraw true [] false 0 (fun a i => i = [] ∧ famPre d_sc spDraw_A spDraw_pre a) (fun a i r b => famPost d_sc spDraw_post a r b) := ⟨rfl, rfl, rfl, rfl, fun _ _ => rfl, fun _ _ _ _ => rfl⟩
def spDrawS_A : Scn → List AV
  | s => [.agg (scC s)]
def spDrawS_pre : Scn → Prop
  | s => okFs s.fs
def spDrawS_post : Scn → AV → List Box → Prop
  | s, r, bs => r = .c (.sl false (((drawV s)).map coC)) ∧ bs = []
def spDrawS : VE.Spec := famSpecS spDrawS_A d_sc spDrawS_pre spDrawS_post 0 false
theorem spDrawS_q : SpQ spDrawS false [] true 0 (fun a i => i = [] ∧ famPre d_sc spDrawS_A spDrawS_pre a) (fun a i r b => famPost d_sc spDrawS_post a r b) := ⟨rfl, rfl, rfl, rfl, fun _ _ => rfl, fun _ _ _ _ => rfl⟩
section
def tb30 : Nat → Option VE.Spec := tabOf [(54, wkIn spPix)]
theorem tb30_54 : tb30 54 = some (wkIn spPix) := rfl
theorem tb30_ok : TabOK Tryz.prog rt0 tb30 := (tabOf_cons (by kernel_rfl) sat_impl_Scene_pixel tabOf_nil)
section
attribute [local go_sem] Tryz.f30 tb30_54 spDraw_q spDraw_A spDraw_pre spDraw_post spPix_q spPix_A spPix_pre spPix_post
set_option maxHeartbeats 4000000 in
theorem sat_impl_Scene_draw_0 : Sat Tryz.prog rt0 30 (wkOut spDraw) := by
  refine fn_sat hm ttok (tab := tb30) tb30_ok Tryz.func30 (c := Tryz.f30.body.getD .skip) (by kernel_rfl) (ts := [.tmp 2]) (by kernel_rfl) Tryz.ntmps30 (sq := fun _ => true) (by kernel_rfl) ?_
  intro args ins pk hpre0 hpk
  obtain ⟨rfl, hpre0⟩ := hpre0
  obtain ⟨s, rfl, hpre, hdec⟩ := famPre_ex hpre0
  clear hpre0 hdec
  try simp only [spDraw_pre] at hpre
  replace hpk : pk + 0 ≤ pickLimit := hpk
  refine ⟨nle rfl, ?_⟩
  obtain ⟨hfs, hv⟩ := hpre
  obtain ⟨hz, hl4, hal⟩ := vScn_parts hv
  have hr := szd_r hz
  have hwh := wh_bd hz
  simp (maxSteps := 1000000) only [go_sem]
  repeat' first | apply And.intro | intro _ | omega | assumption | with_reducible rfl
  any_goals
    refine loopS (α := (List Colr) × Int) false [0, 3, 4, 5, 6, 7, 8, 9, 10, 11, 12, 14, 15, 16, 17, 18, 19, 20, 21, 22, 23, 24, 25, 26, 27, 28, 29, 30] (fun σ => [gId (σ.get 3)]) (fun σ x => [(3, .c (.own (gId (σ.get 3)) (x.1).length false)), (14, I x.2)]) (fun σ x => [(gId (σ.get 3), some ⟨(x.1).map coC, 4, 66, true, false⟩)]) (fun (o, i) => 0) (fun σ => (gL coCd σ (σ.get 3), gI (σ.get 14))) (fun σ τ => [(gId (σ.get 3), gId (τ.get 3))]) (fun (o, i) => (0 ≤ i ∧ i ≤ s.h) ∧ o = pixAll s.fs s.w.toNat i.toNat) (fun (o, i) => (s.h - i).toNat) ⟨by (simp (maxSteps := 1000000) only [go_sem]; (repeat' first | apply And.intro | intro _ | omega | assumption | with_reducible rfl); all_goals (first | rfl)), ?_⟩
    rintro ⟨o, i⟩ hinv
    try dsimp only at hinv
    simp (maxSteps := 1000000) only [go_sem]
    have hb := pixAll_bd s.fs hz (i := i) (by omega)
    rw [← hinv.2] at hb
    repeat' first | apply And.intro | intro _ | omega | assumption | with_reducible rfl
  
  any_goals
    have hb0 := pixAll_bd s.fs hz (i := i) (by omega)
    refine loopS (α := (List Colr) × Int) false [0, 3, 5, 6, 7, 8, 9, 10, 11, 12, 15, 16, 17, 19, 20, 21, 22, 23, 24, 25, 26, 27, 28, 29] (fun σ => [gId (σ.get 3)]) (fun σ x => [(3, .c (.own (gId (σ.get 3)) (x.1).length false)), (19, I x.2)]) (fun σ x => [(gId (σ.get 3), some ⟨(x.1).map coC, 4, 66, true, false⟩)]) (fun (o, k) => 0) (fun σ => (gL coCd σ (σ.get 3), gI (σ.get 19))) (fun σ τ => [(gId (σ.get 3), gId (τ.get 3))]) (fun (o, k) => (0 ≤ k ∧ k ≤ s.w) ∧ o = pixAll s.fs s.w.toNat i.toNat ++ pixRow s.fs k.toNat i) (fun (o, k) => (s.w - k).toNat) ⟨by (simp (maxSteps := 1000000) only [go_sem]; (repeat' first | apply And.intro | intro _ | omega | assumption | with_reducible rfl); all_goals (first | (rw [hinv.2]; simp [pixRow]))), ?_⟩
    rintro ⟨o, k⟩ hinv
    try dsimp only at hinv
    simp (maxSteps := 1000000) only [go_sem]
    have hb2 := pixRow_len s.fs k.toNat i
    have hb3 : o.length ≤ 160 := by rw [hinv.2, List.length_append, hb2]; omega
    repeat' first | apply And.intro | intro _ | omega | assumption | with_reducible rfl
  all_goals (first | (exact ⟨hfs, hal⟩) | (exact hfs) | (exact hal) | ((rw [hinv.2, List.append_assoc, pixRow_step _ _ hinv.1.1]); done) | ((rw [hinv.2, pixAll_step _ _ (by omega), show k = s.w by omega]); done) | ((rw [hinv.2, show i = s.h by omega]); done) | ((rw [hinv.2]; simp [pixRow]); done) | omega)
end
theorem sat_impl_Scene_draw : Sat Tryz.prog rt0 30 (wkIn spDraw) := sat_in (sat_out sat_impl_Scene_draw_0)
def tb11 : Nat → Option VE.Spec := tabOf [(18, wkIn spVScn), (30, wkIn spDraw)]
theorem tb11_18 : tb11 18 = some (wkIn spVScn) := rfl
theorem tb11_30 : tb11 30 = some (wkIn spDraw) := rfl
theorem tb11_ok : TabOK Tryz.prog rt0 tb11 := (tabOf_cons (by kernel_rfl) sat_impl_ValidScene (tabOf_cons (by kernel_rfl) sat_impl_Scene_draw tabOf_nil))
set_option maxHeartbeats 4000000 in
theorem sat_impl_DrawScene_0 : Sat Tryz.prog rt0 11 (wkOut spDrawS) := by
  refine fn_sat hm ttok (tab := tb11) tb11_ok Tryz.func11 (c := Tryz.f11.body.getD .skip) (by kernel_rfl) (ts := [.tmp 2]) (by kernel_rfl) Tryz.ntmps11 (sq := fun _ => true) (by kernel_rfl) ?_
  intro args ins pk hpre0 hpk
  obtain ⟨rfl, hpre0⟩ := hpre0
  obtain ⟨s, rfl, hpre, hdec⟩ := famPre_ex hpre0
  clear hpre0 hdec
  try simp only [spDrawS_pre] at hpre
  replace hpk : pk + 0 ≤ pickLimit := hpk
  refine ⟨nle rfl, ?_⟩
  simp (maxSteps := 1000000) only [go_sem, Tryz.f11, tb11_18, tb11_30, spDrawS_q, spDrawS_A, spDrawS_pre, spDrawS_post, spVScn_q, spVScn_A, spVScn_pre, spVScn_post, spDraw_q, spDraw_A, spDraw_pre, spDraw_post]
  repeat' first | apply And.intro | intro _ | omega | assumption | with_reducible rfl
  all_goals (first | (exact hpre) | (exact ⟨hpre, ‹_›⟩) | (assumption; done) | ((rw [drawV, if_pos ‹_›]); done) | ((rw [drawV, ‹vScn s = false›]; rfl); done))
theorem sat_impl_DrawScene : Sat Tryz.prog rt0 11 (wkIn spDrawS) := sat_in (sat_out sat_impl_DrawScene_0)
end
section
theorem eqL2_step {α : Type} {a b : List α} {i : Int} {x y : α} (ha : a[i.toNat]? = some x) (hb : b[i.toNat]? = some y) (e : x = y) (h0 : 0 ≤ i) (h : a.take i.toNat = b.take i.toNat) : a.take (i + 1).toNat = b.take (i + 1).toNat := by
  subst e; rw [takeN ha h0, takeN hb h0, h]
theorem eqL2_no {α : Type} {a b : List α} {i : Int} {x y : α} (ha : a[i.toNat]? = some x) (hb : b[i.toNat]? = some y) (h : x ≠ y) : a ≠ b := fun e => by
  rw [e, hb] at ha; exact h (Option.some.inj ha).symm
theorem eqL2_end {α : Type} {a b : List α} {i : Int} (hl : (a.length : Int) = b.length) (hi : ¬ i < (a.length : Int)) (h : a.take i.toNat = b.take i.toNat) : a = b := by
  rwa [takeA (by omega), takeA (by omega)] at h
theorem eqL2_len {α : Type} {a b : List α} (hl : ¬ (a.length : Int) = b.length) : a ≠ b := fun e => hl (by rw [e])
def spEqC_A : (List Colr) × (List Colr) → List AV
  | (a, b) => [.c (.sl false (a.map coC)), .c (.sl false (b.map coC))]
def spEqC_pre : (List Colr) × (List Colr) → Prop
  | (a, b) => a.length ≤ 1000000000 ∧ b.length ≤ 1000000000
def spEqC_post : (List Colr) × (List Colr) → AV → List Box → Prop
  | (a, b), r, bs => r = B (decide (a = b)) ∧ bs = []
def spEqC : VE.Spec := famSpec spEqC_A d_lco_lco spEqC_pre spEqC_post 0 true
theorem spEqC_q : SpQ spEqC true [] false 0 (fun a i => i = [] ∧ famPre d_lco_lco spEqC_A spEqC_pre a) (fun a i r b => famPost d_lco_lco spEqC_post a r b) := ⟨rfl, rfl, rfl, rfl, fun _ _ => rfl, fun _ _ _ _ => rfl⟩
def tb10 : Nat → Option VE.Spec := tabOf []
theorem tb10_ok : TabOK Tryz.prog rt0 tb10 := tabOf_nil
section
attribute [local go_sem] Tryz.f10 spEqC_q spEqC_A spEqC_pre spEqC_post
set_option maxHeartbeats 4000000 in
theorem sat_laws_equalColors_0 : Sat Tryz.prog rt0 10 (wkOut spEqC) := by
  refine fn_sat hm ttok (tab := tb10) tb10_ok Tryz.func10 (c := Tryz.f10.body.getD .skip) (by kernel_rfl) (ts := [.tmp 4]) (by kernel_rfl) Tryz.ntmps10 (sq := fun _ => true) (by kernel_rfl) ?_
  intro args ins pk hpre0 hpk
  obtain ⟨rfl, hpre0⟩ := hpre0
  obtain ⟨⟨a, b⟩, rfl, hpre, hdec⟩ := famPre_ex hpre0
  clear hpre0 hdec
  try simp only [spEqC_pre] at hpre
  replace hpk : pk + 0 ≤ pickLimit := hpk
  refine ⟨nle rfl, ?_⟩
  simp (maxSteps := 1000000) only [go_sem]
  repeat' first | apply And.intro | intro _ | omega | assumption | with_reducible rfl
  any_goals
    refine loopS (α := Int) false [2, 3, 4, 5, 6, 7, 8, 9, 10, 11, 12, 13, 14, 15, 16, 17, 18, 19, 20, 21, 22, 23, 24, 25] (fun σ => []) (fun σ x => [(5, I x)]) (fun σ x => []) (fun i => 0) (fun σ => gI (σ.get 5)) (fun σ τ => []) (fun i => 0 ≤ i ∧ i ≤ a.length ∧ a.take i.toNat = b.take i.toNat) (fun i => (a.length - i).toNat) ⟨by (simp (maxSteps := 1000000) only [go_sem]; (repeat' first | apply And.intro | intro _ | omega | assumption | with_reducible rfl); all_goals (first | rfl)), ?_⟩
    rintro i hinv
    try dsimp only at hinv
    simp (maxSteps := 1000000) only [go_sem]
    repeat' first | apply And.intro | intro _ | omega | assumption | with_reducible rfl
  
  all_goals (first | (exact eqL2_step ‹_› ‹_› ‹_› hinv.1 hinv.2.2) | (exact (decide_eq_false (eqL2_no ‹_› ‹_› ‹_›)).symm) | (exact (decide_eq_true (eqL2_end ‹_› ‹_› hinv.2.2)).symm) | (exact (decide_eq_false (eqL2_len ‹_›)).symm))
end
theorem sat_laws_equalColors : Sat Tryz.prog rt0 10 (wkIn spEqC) := sat_in (sat_out sat_laws_equalColors_0)
end
end Go.Proofs.YtcejoknapbhloaaGreat
