/- Contracts of functions of the program vectorraster, each proved for all states that fit its description. No conditions. -/
import Derived.Test.YthphndhiacikaaaGreatDoorT3SED
import Derived.Test.YthphndhiacikaaaGreatDoorPSC
set_option maxRecDepth 100000
set_option linter.unusedSimpArgs false
set_option linter.unusedVariables false
namespace Go.Proofs.YthphndhiacikaaaGreatDoor
open Go Go.VE
theorem eqL7_step {α : Type} {a b : List α} {i : Int} {x y : α} (ha : a[i.toNat]? = some x) (hb : b[i.toNat]? = some y) (e : x = y) (h0 : 0 ≤ i) (h : a.take i.toNat = b.take i.toNat) : a.take (i + 1).toNat = b.take (i + 1).toNat := by
  subst e; rw [takeN ha h0, takeN hb h0, h]
theorem eqL7_no {α : Type} {a b : List α} {i : Int} {x y : α} (ha : a[i.toNat]? = some x) (hb : b[i.toNat]? = some y) (h : x ≠ y) : a ≠ b := fun e => by
  rw [e, hb] at ha; exact h (Option.some.inj ha).symm
theorem eqL7_end {α : Type} {a b : List α} {i : Int} (hl : (a.length : Int) = b.length) (hi : ¬ i < (a.length : Int)) (h : a.take i.toNat = b.take i.toNat) : a = b := by
  rwa [takeA (by omega), takeA (by omega)] at h
theorem eqL7_len {α : Type} {a b : List α} (hl : ¬ (a.length : Int) = b.length) : a ≠ b := fun e => hl (by rw [e])
def cp7 {α : Type} (l : List α) (z : α) (i : Int) : List α := l.take i.toNat ++ List.replicate (l.length - i.toNat) z
theorem cp7_len {α : Type} (l : List α) (z : α) {i : Int} (h : i ≤ (l.length : Int)) : (cp7 l z i).length = l.length := by
  unfold cp7; rw [List.length_append, List.length_take, List.length_replicate]; omega
theorem cp7_set {α : Type} {l : List α} {z x : α} {i : Int} (h0 : 0 ≤ i) (h : l[i.toNat]? = some x) : (cp7 l z i).set i.toNat x = cp7 l z (i + 1) := by
  have hl := (List.getElem?_eq_some_iff.1 h).1
  refine List.ext_getElem? fun j => ?_
  unfold cp7
  rw [show (i + 1).toNat = i.toNat + 1 by omega]
  rw [List.getElem?_set, List.length_append, List.length_take, List.length_replicate]
  by_cases hj : i.toNat = j
  · subst hj
    rw [if_pos rfl, if_pos (by omega), List.getElem?_append_left (by rw [List.length_take]; omega), List.getElem?_take, if_pos (by omega), h]
  · rw [if_neg hj]
    by_cases hlt : j < i.toNat
    · rw [List.getElem?_append_left (by rw [List.length_take]; omega), List.getElem?_append_left (by rw [List.length_take]; omega), List.getElem?_take, List.getElem?_take, if_pos hlt, if_pos (by omega)]
    · rw [List.getElem?_append_right (by rw [List.length_take]; omega), List.getElem?_append_right (by rw [List.length_take]; omega), List.length_take, List.length_take, List.getElem?_replicate, List.getElem?_replicate]
      by_cases hb : j < l.length
      · rw [if_pos (by omega), if_pos (by omega)]
      · rw [if_neg (by omega), if_neg (by omega)]
theorem cp7_end {α : Type} {l : List α} {z : α} {i : Int} (h : ¬ i < (l.length : Int)) : cp7 l z i = l := by
  unfold cp7
  rw [show l.length - i.toNat = 0 by omega, List.replicate_zero, List.append_nil, List.take_of_length_le (by omega)]
theorem cp7_0 {α : Type} (l : List α) (z : α) : cp7 l z 0 = List.replicate l.length z := by
  unfold cp7; simp
def sumS (l : List ByteArray) : Nat := (l.map ByteArray.size).sum
theorem sumS_step {l : List ByteArray} {i : Int} {x : ByteArray} (hk : l[i.toNat]? = some x) (h0 : 0 ≤ i) : sumS (l.take (i + 1).toNat) = sumS (l.take i.toNat) + x.size := by
  rw [takeN hk h0]; simp [sumS]
theorem sumS_mem {l : List ByteArray} {x : ByteArray} (h : x ∈ l) : x.size ≤ sumS l := by
  induction l with
  | nil => cases h
  | cons a r ih =>
    simp only [sumS, List.map_cons, List.sum_cons] at ih ⊢
    rcases List.mem_cons.1 h with rfl | h
    · omega
    · have := ih h; omega
theorem sumS_take (l : List ByteArray) (n : Nat) : sumS (l.take n) ≤ sumS l := by
  have h : sumS l = sumS (l.take n) + sumS (l.drop n) := by
    unfold sumS
    rw [← List.sum_append, ← List.map_append, List.take_append_drop]
  omega
def szR (t : Nat) (left : Int) : Int := if left - t < 0 then -1 else left - t
theorem szR_n {t : Nat} {left : Int} (h : left - t < 0) : szR t left = -1 := if_pos h
theorem szR_y {t : Nat} {left : Int} (h : ¬ left - t < 0) : szR t left = left - t := if_neg h
theorem szR_bad {l : List ByteArray} {i left q : Int} {x : ByteArray} (hk : l[i.toNat]? = some x) (h0 : 0 ≤ i) (hq : q = left - ((l.length : Int) + sumS (l.take i.toNat))) (h : q - x.size < 0) : szR (l.length + sumS l) left = -1 := by
  have h1 := sumS_step hk h0
  have h2 := sumS_take l (i + 1).toNat
  exact szR_n (by omega)
theorem szR_bad0 {l : List ByteArray} {left : Int} (h : left - (l.length : Int) < 0) : szR (l.length + sumS l) left = -1 := szR_n (by omega)
theorem szR_end {l : List ByteArray} {i left q : Int} (h : ¬ i < (l.length : Int)) (hq : q = left - ((l.length : Int) + sumS (l.take i.toNat))) (h0 : 0 ≤ q) : szR (l.length + sumS l) left = q := by
  rw [takeA (by omega)] at hq
  rw [szR_y (by omega)]; omega
theorem szR_ok {l : List ByteArray} (h : ¬ szR (l.length + sumS l) 1048576 < 0) : l.length ≤ 1048576 ∧ SzL 1048576 l := by
  have h1 : ¬ (1048576 : Int) - ((l.length + sumS l : Nat) : Int) < 0 := fun h2 => h (by rw [szR_n h2]; decide)
  exact ⟨by omega, ⟨fun x hx => by have := sumS_mem hx; omega⟩⟩
theorem zr_sC (n : Nat) : List.replicate n [C.v (.string ByteArray.empty)] = List.map sC (List.replicate n default) := by rw [List.map_replicate]; rfl
theorem sC_setm (o : List ByteArray) (n : Nat) (k : ByteArray) : (List.map sC o).set n [C.v (.string k)] = List.map sC (o.set n k) := by rw [List.map_set]; rfl
def spSzS_A : (List ByteArray) × Int → List AV
  | (l, left) => [.c (.sl false (l.map sC)), I left]
def spSzS_pre : (List ByteArray) × Int → Prop
  | (l, left) => (0 ≤ left ∧ left ≤ 1048576) ∧ l.length ≤ 9223372036854775807 ∧ SzL 9223372036854775807 l
def spSzS_post : (List ByteArray) × Int → AV → List Box → Prop
  | (l, left), r, bs => r = I (szR (l.length + sumS l) left) ∧ bs = []
def spSzS : VE.Spec := famSpec spSzS_A d_ls_i spSzS_pre spSzS_post 0 true
theorem spSzS_q : SpQ spSzS true [] false 0 (fun a i => i = [] ∧ famPre d_ls_i spSzS_A spSzS_pre a) (fun a i r b => famPost d_ls_i spSzS_post a r b) := ⟨rfl, rfl, rfl, rfl, fun _ _ => rfl, fun _ _ _ _ => rfl⟩
def tb17 : Nat → Option VE.Spec := tabOf []
theorem tb17_ok : TabOK Tryz.prog rt0 tb17 := tabOf_nil
section
attribute [local go_sem] Tryz.f17 spSzS_q spSzS_A spSzS_pre spSzS_post
set_option maxHeartbeats 4000000 in
theorem sat_laws_szStringS_0 : Sat Tryz.prog rt0 17 (wkOut spSzS) := by
  refine fn_sat hm ttok (tab := tb17) tb17_ok Tryz.func17 (c := Tryz.f17.body.getD .skip) (by kernel_rfl) (ts := [.tmp 4]) (by kernel_rfl) Tryz.ntmps17 (sq := fun _ => true) (by kernel_rfl) ?_
  intro args ins pk hpre0 hpk
  obtain ⟨rfl, hpre0⟩ := hpre0
  obtain ⟨⟨l, left⟩, rfl, hpre, hdec⟩ := famPre_ex hpre0
  clear hpre0 hdec
  try simp only [spSzS_pre] at hpre
  replace hpk : pk + 0 ≤ pickLimit := hpk
  refine ⟨nle rfl, ?_⟩
  simp (maxSteps := 1000000) only [go_sem]
  repeat' first | apply And.intro | intro _ | omega | assumption | with_reducible rfl
  any_goals
    refine loopS (α := Int × Int) false [1, 2, 3, 4, 5, 6, 7, 8, 9, 10, 11, 12, 13, 14, 15, 16, 17, 18, 19, 20, 21, 22, 23, 24, 25, 26] (fun σ => []) (fun σ x => [(1, I x.1), (5, I x.2)]) (fun σ x => []) (fun (q, i) => 0) (fun σ => (gI (σ.get 1), gI (σ.get 5))) (fun σ τ => []) (fun (q, i) => (0 ≤ i ∧ i ≤ l.length) ∧ (0 ≤ q ∧ q ≤ 1048576) ∧ q = left - ((l.length : Int) + sumS (l.take i.toNat))) (fun (q, i) => (l.length - i).toNat) ⟨by (simp (maxSteps := 1000000) only [go_sem]; (repeat' first | apply And.intro | intro _ | omega | assumption | with_reducible rfl); all_goals (first | omega | (simp [sumS]; done) | (simp [sumS]; omega) | skip)), ?_⟩
    rintro ⟨q, i⟩ hinv
    try dsimp only at hinv
    rcases elemAt l i (by omega) with ⟨hlt, x, hk⟩ | hlt
    all_goals (first | ((have hlt2 := of_eq_true hlt); (have hX := hpre.2.2.at hk); (have hS := sumS_step hk hinv.1.1); all_goals simp (maxSteps := 1000000) only [go_sem, hlt, hk]) | (have hlt2 := of_eq_false hlt; simp (maxSteps := 1000000) only [go_sem, hlt]))
    all_goals
      repeat' first | apply And.intro | intro _ | omega | assumption | with_reducible rfl
  
  all_goals (first | omega | ((rw [szR_bad hk hinv.1.1 hinv.2.2 ‹_›]); done) | (exact (szR_bad hk hinv.1.1 hinv.2.2 ‹_›).symm) | ((rw [szR_bad0 ‹_›]); done) | (exact (szR_bad0 ‹_›).symm) | ((rw [szR_end hlt2 hinv.2.2 hinv.2.1.1]); done) | (exact (szR_end hlt2 hinv.2.2 hinv.2.1.1).symm) | (skip; done))
end
theorem sat_laws_szStringS : Sat Tryz.prog rt0 17 (wkIn spSzS) := sat_in (sat_out sat_laws_szStringS_0)
def spToSL_A : (List ByteArray) → List AV
  | l => [.c (.sl false (l.map sC))]
def spToSL_pre : (List ByteArray) → Prop
  | l => l.length ≤ 1000000000
def spToSL_post : (List ByteArray) → AV → List Box → Prop
  | l, r, bs => r = .c (.own 0 (l).length false) ∧ bs = [⟨(l).map sC, 1, 9, true, false⟩]
def spToSL : VE.Spec := famSpec spToSL_A d_ls spToSL_pre spToSL_post 0 true
theorem spToSL_q : SpQ spToSL true [] false 0 (fun a i => i = [] ∧ famPre d_ls spToSL_A spToSL_pre a) (fun a i r b => famPost d_ls spToSL_post a r b) := ⟨rfl, rfl, rfl, rfl, fun _ _ => rfl, fun _ _ _ _ => rfl⟩
def tb18 : Nat → Option VE.Spec := tabOf []
theorem tb18_ok : TabOK Tryz.prog rt0 tb18 := tabOf_nil
section
attribute [local go_sem] Tryz.f18 spToSL_q spToSL_A spToSL_pre spToSL_post
set_option maxHeartbeats 4000000 in
theorem sat_laws_toStringS_0 : Sat Tryz.prog rt0 18 (wkOut spToSL) := by
  refine fn_sat hm ttok (tab := tb18) tb18_ok Tryz.func18 (c := Tryz.f18.body.getD .skip) (by kernel_rfl) (ts := [.tmp 2]) (by kernel_rfl) Tryz.ntmps18 (sq := fun _ => true) (by kernel_rfl) ?_
  intro args ins pk hpre0 hpk
  obtain ⟨rfl, hpre0⟩ := hpre0
  obtain ⟨l, rfl, hpre, hdec⟩ := famPre_ex hpre0
  clear hpre0 hdec
  try simp only [spToSL_pre] at hpre
  replace hpk : pk + 0 ≤ pickLimit := hpk
  refine ⟨nle rfl, ?_⟩
  simp (maxSteps := 1000000) only [go_sem, zr_sC, Int.toNat_natCast, sC_setm]
  repeat' first | apply And.intro | intro _ | omega | assumption | with_reducible rfl
  any_goals
    refine loopS (α := (List ByteArray) × Int) false [1, 4, 5, 6, 7, 8, 9, 10, 11, 12, 13, 14, 15, 16, 17, 18, 19, 20] (fun σ => [gId (σ.get 3)]) (fun σ x => [(3, .c (.own (gId (σ.get 3)) (x.1).length false)), (4, I x.2)]) (fun σ x => [(gId (σ.get 3), some ⟨(x.1).map sC, 1, 9, true, false⟩)]) (fun (o, i) => 0) (fun σ => (gL sCd σ (σ.get 3), gI (σ.get 4))) (fun σ τ => [(gId (σ.get 3), gId (τ.get 3))]) (fun (o, i) => (0 ≤ i ∧ i ≤ l.length) ∧ o = cp7 l default i) (fun (o, i) => (l.length - i).toNat) ⟨by (simp (maxSteps := 1000000) only [go_sem, zr_sC, Int.toNat_natCast, sC_setm]; (repeat' first | apply And.intro | intro _ | omega | assumption | with_reducible rfl); all_goals (first | rfl | omega | (rw [cp7_0]) | skip)), ?_⟩
    rintro ⟨o, i⟩ hinv
    try dsimp only at hinv
    rcases elemAt l i (by omega) with ⟨hlt, c, hk⟩ | hlt
    all_goals (first | ((have hlt2 := of_eq_true hlt); all_goals simp (maxSteps := 1000000) only [go_sem, zr_sC, Int.toNat_natCast, sC_setm, hlt, hk]) | (have hlt2 := of_eq_false hlt; simp (maxSteps := 1000000) only [go_sem, zr_sC, Int.toNat_natCast, sC_setm, hlt]))
    all_goals
      have hol : o.length = l.length := by rw [hinv.2]; exact cp7_len _ _ (by omega)
    all_goals
      repeat' first | apply And.intro | intro _ | omega | assumption | with_reducible rfl
  
  all_goals (first | omega | (rfl; done) | ((rw [cp7_len _ _ (by omega)]; omega); done) | (exact cp7_set hinv.1.1 ‹_›) | ((rw [hinv.2]; exact cp7_set hinv.1.1 hk); done) | ((rw [hinv.2, cp7_end hlt2]); done) | ((rw [cp7_0, List.map_replicate]; rfl); done) | (skip; done))
end
theorem sat_laws_toStringS : Sat Tryz.prog rt0 18 (wkIn spToSL) := sat_in (sat_out sat_laws_toStringS_0)
def spEqSL_A : (List ByteArray) × (List ByteArray) → List AV
  | (a, b) => [.c (.sl false (a.map sC)), .c (.sl false (b.map sC))]
def spEqSL_pre : (List ByteArray) × (List ByteArray) → Prop
  | (a, b) => a.length ≤ 1000000000 ∧ b.length ≤ 1000000000
def spEqSL_post : (List ByteArray) × (List ByteArray) → AV → List Box → Prop
  | (a, b), r, bs => r = B (decide (a = b)) ∧ bs = []
def spEqSL : VE.Spec := famSpec spEqSL_A d_ls_ls spEqSL_pre spEqSL_post 0 true
theorem spEqSL_q : SpQ spEqSL true [] false 0 (fun a i => i = [] ∧ famPre d_ls_ls spEqSL_A spEqSL_pre a) (fun a i r b => famPost d_ls_ls spEqSL_post a r b) := ⟨rfl, rfl, rfl, rfl, fun _ _ => rfl, fun _ _ _ _ => rfl⟩
def tb19 : Nat → Option VE.Spec := tabOf []
theorem tb19_ok : TabOK Tryz.prog rt0 tb19 := tabOf_nil
section
attribute [local go_sem] Tryz.f19 spEqSL_q spEqSL_A spEqSL_pre spEqSL_post
set_option maxHeartbeats 4000000 in
theorem sat_laws_eqStringS_0 : Sat Tryz.prog rt0 19 (wkOut spEqSL) := by
  refine fn_sat hm ttok (tab := tb19) tb19_ok Tryz.func19 (c := Tryz.f19.body.getD .skip) (by kernel_rfl) (ts := [.tmp 4]) (by kernel_rfl) Tryz.ntmps19 (sq := fun _ => true) (by kernel_rfl) ?_
  intro args ins pk hpre0 hpk
  obtain ⟨rfl, hpre0⟩ := hpre0
  obtain ⟨⟨a, b⟩, rfl, hpre, hdec⟩ := famPre_ex hpre0
  clear hpre0 hdec
  try simp only [spEqSL_pre] at hpre
  replace hpk : pk + 0 ≤ pickLimit := hpk
  refine ⟨nle rfl, ?_⟩
  simp (maxSteps := 1000000) only [go_sem]
  repeat' first | apply And.intro | intro _ | omega | assumption | with_reducible rfl
  any_goals
    refine loopS (α := Int) false [2, 3, 4, 5, 6, 7, 8, 9, 10, 11, 12, 13, 14, 15, 16, 17, 18, 19, 20, 21, 22, 23, 24, 25] (fun σ => []) (fun σ x => [(5, I x)]) (fun σ x => []) (fun i => 0) (fun σ => gI (σ.get 5)) (fun σ τ => []) (fun i => 0 ≤ i ∧ i ≤ a.length ∧ a.take i.toNat = b.take i.toNat) (fun i => (a.length - i).toNat) ⟨by (simp (maxSteps := 1000000) only [go_sem]; (repeat' first | apply And.intro | intro _ | omega | assumption | with_reducible rfl); all_goals (first | rfl)), ?_⟩
    rintro i hinv
    try dsimp only at hinv
    rcases elemAt a i (by omega) with ⟨hlt, x, hk⟩ | hlt
    all_goals (first | ((have hlt2 := of_eq_true hlt); (obtain ⟨y, hy⟩ : ∃ y, b[i.toNat]? = some y := ⟨_, List.getElem?_eq_getElem (by omega)⟩); all_goals (first | simp (maxSteps := 1000000) only [go_sem, hlt, hk, hy] | simp (maxSteps := 1000000) only [go_sem, hlt, hk])) | (have hlt2 := of_eq_false hlt; (first | simp (maxSteps := 1000000) only [go_sem, hlt, hy] | simp (maxSteps := 1000000) only [go_sem, hlt])))
    all_goals
      repeat' first | apply And.intro | intro _ | omega | assumption | with_reducible rfl
  
  all_goals (first | (exact eqL7_step hk hy ‹x = y› hinv.1 hinv.2.2) | (exact (decide_eq_false (eqL7_no hk hy ‹¬ x = y›)).symm) | (exact (decide_eq_true (eqL7_end ‹_› hlt2 hinv.2.2)).symm) | (exact (decide_eq_false (eqL7_len ‹_›)).symm) | omega | (skip; done))
end
theorem sat_laws_eqStringS : Sat Tryz.prog rt0 19 (wkIn spEqSL) := sat_in (sat_out sat_laws_eqStringS_0)
end Go.Proofs.YthphndhiacikaaaGreatDoor
