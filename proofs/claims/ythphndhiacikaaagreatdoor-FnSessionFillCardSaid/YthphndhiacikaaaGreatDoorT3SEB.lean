/- Contracts of functions of the program vectorraster, each proved for all states that fit its description. No conditions. -/
import Derived.Test.YthphndhiacikaaaGreatDoorPSA
import Derived.Test.YthphndhiacikaaaGreatDoorPSB
import Derived.Test.YthphndhiacikaaaGreatDoorPT
import Derived.Test.YthphndhiacikaaaGreatDoorPR
import Derived.Test.YthphndhiacikaaaGreatDoorPE
import Derived.Test.YthphndhiacikaaaGreatDoorPD
import Derived.Test.YthphndhiacikaaaGreatDoorPTF
import Derived.Test.YthphndhiacikaaaGreatDoorPO
import Derived.Test.YthphndhiacikaaaGreatDoorPF
import Derived.Test.YthphndhiacikaaaGreatDoorKK
import Derived.Test.YthphndhiacikaaaGreatDoorPH
set_option maxRecDepth 100000
set_option linter.unusedSimpArgs false
set_option linter.unusedVariables false
namespace Go.Proofs.YthphndhiacikaaaGreatDoor
open Go Go.VE
theorem spl_few2 {x : ByteArray} {L : List ByteArray} (hL : L.map tx = spl 32 (tx x)) : (1 ≤ L.length ∧ L.length ≤ x.size + 1) ∧ ∀ y ∈ L, y.size ≤ x.size := by
  have h1 := spl_num 32 (tx x)
  have h2 := List.length_pos_iff.2 (spl_ne 32 (tx x))
  rw [tx_len, ← hL, List.length_map] at h1
  rw [← hL, List.length_map] at h2
  refine ⟨by omega, fun y hy => ?_⟩
  have := spl_lens 32 (l := tx x) (x := tx y) (by rw [← hL]; exact List.mem_map_of_mem hy)
  rw [tx_len, tx_len] at this
  exact this
def spLineI_A : Ses × ByteArray → List AV
  | (t, x) => [.c (.ptr 0 1 0 0), .c (.v (.string x))]
def spLineI_B : Ses × ByteArray → List Box
  | (t, x) => [⟨[seC t], 8, 75, false, false⟩]
def spLineI_d : List AV → List Box → Option (Ses × ByteArray)
  | [.c (.ptr 0 1 0 0), .c (.v (.string a0))], [⟨[e], _, _, _, _⟩] => match seCd e with
    | some t => some (t, a0)
    | _ => none
  | _, _ => none
def spLineI_pre : Ses × ByteArray → Prop
  | (t, x) => okSes t ∧ x.size ≤ 2000000
def spLineI_post : Ses × ByteArray → AV → List Box → Prop
  | (t, x), r, bs => r = .c (.v (.string ((lineT t x).1))) ∧ bs = [⟨[seC ((lineT t x).2)], 8, 75, false, false⟩]
def spLineI : VE.Spec := famSpecM spLineI_A spLineI_B spLineI_d spLineI_pre spLineI_post 0 false [true] true
theorem spLineI_q : SpQ spLineI false [true] true 0 (fun a i => famPreM spLineI_d spLineI_A spLineI_B spLineI_pre a i) (fun a i r b => famPostM spLineI_d spLineI_post a i r b) := ⟨rfl, rfl, rfl, rfl, fun _ _ => rfl, fun _ _ _ _ => rfl⟩
def spHasQ_A : Scn × Int × Int → List AV
  | (s, c, w) => [.agg (scC s), I c, I w]
def spHasQ_pre : Scn × Int × Int → Prop
  | (s, c, w) => (0 ≤ s.w ∧ s.w ≤ 12) ∧ 0 ≤ s.h ∧ s.h ≤ 12
def spHasQ_post : Scn × Int × Int → AV → List Box → Prop
  | (s, c, w), r, bs => r = B (decide (0 ≤ c ∧ c ≤ s.w - 1) && decide (0 ≤ w ∧ w ≤ s.h - 1)) ∧ bs = []
def spHasQ : VE.Spec := famSpec spHasQ_A d_sc_i_i spHasQ_pre spHasQ_post 0 true
theorem spHasQ_q : SpQ spHasQ true [] false 0 (fun a i => i = [] ∧ famPre d_sc_i_i spHasQ_A spHasQ_pre a) (fun a i r b => famPost d_sc_i_i spHasQ_post a r b) := ⟨rfl, rfl, rfl, rfl, fun _ _ => rfl, fun _ _ _ _ => rfl⟩
def tbQ72 : Nat → Option VE.Spec := tabOf [(38, wkIn spIn)]
theorem tbQ72_38 : tbQ72 38 = some (wkIn spIn) := rfl
theorem tbQ72_ok : TabOK Tryz.prog rt0 tbQ72 := (tabOf_cons (by kernel_rfl) sat_impl_in tabOf_nil)
set_option maxHeartbeats 4000000 in
theorem satQ_impl_Scene_has_0 : Sat Tryz.prog rt0 72 (wkOut spHasQ) := by
  refine fn_sat hm ttok (tab := tbQ72) tbQ72_ok Tryz.func72 (c := Tryz.f72.body.getD .skip) (by kernel_rfl) (ts := [.tmp 6]) (by kernel_rfl) Tryz.ntmps72 (sq := fun _ => true) (by kernel_rfl) ?_
  intro args ins pk hpre0 hpk
  obtain ⟨rfl, hpre0⟩ := hpre0
  obtain ⟨⟨s, c, w⟩, rfl, hpre, hdec⟩ := famPre_ex hpre0
  clear hpre0 hdec
  try simp only [spHasQ_pre] at hpre
  replace hpk : pk + 0 ≤ pickLimit := hpk
  refine ⟨nle rfl, ?_⟩
  simp (maxSteps := 1000000) only [go_sem, Tryz.f72, tbQ72_38, spHasQ_q, spHasQ_A, spHasQ_pre, spHasQ_post, spIn_q, spIn_A, spIn_pre, spIn_post]
  repeat' first | apply And.intro | intro _ | omega | assumption | with_reducible rfl
  all_goals (first | omega | (simp [*]; done) | (simp_all; done) | (grind; done))
theorem satQ_impl_Scene_has : Sat Tryz.prog rt0 72 (wkIn spHasQ) := sat_in (sat_out satQ_impl_Scene_has_0)
theorem hd_w {x w : ByteArray} {L : List ByteArray} (hL : L.map tx = spl 32 (tx x)) (hw : L[0]? = some w) : mkB ((spl 32 (tx x)).headD []) = w := by
  rw [← hL]
  cases L with
  | nil => simp at hw
  | cons a r => simp only [List.getElem?_cons_zero, Option.some.injEq] at hw; subst hw; exact mk_tx a
theorem hd_any {x w : ByteArray} {L : List ByteArray} (hL : L.map tx = spl 32 (tx x)) (hw : L[0]? = some w) (h : x = ⟨#[97, 110, 121]⟩) : w = ⟨#[97, 110, 121]⟩ := by
  rw [← hd_w hL hw, h, spl_any]; rfl
theorem hd_even {x w : ByteArray} {L : List ByteArray} (hL : L.map tx = spl 32 (tx x)) (hw : L[0]? = some w) (h : x = ⟨#[101, 118, 101, 110]⟩) : w = ⟨#[101, 118, 101, 110]⟩ := by
  rw [← hd_w hL hw, h, spl_even]; rfl
theorem hd_fill {x w : ByteArray} {L : List ByteArray} (hL : L.map tx = spl 32 (tx x)) (hw : L[0]? = some w) (h : x.extract 0 5 = ⟨#[102, 105, 108, 108, 32]⟩) : w = ⟨#[102, 105, 108, 108]⟩ := by
  rw [← hd_w hL hw]
  have h2 := congrArg tx h
  rw [tx_ext, List.drop_zero] at h2
  have e : tx x = [102, 105, 108, 108] ++ 32 :: (tx x).drop 5 := by
    have h4 := List.take_append_drop 5 (tx x)
    rw [h2] at h4
    exact h4.symm
  rw [e, spl_app 32 _ (by decide)]; rfl
theorem ns_of {x : ByteArray} {L : List ByteArray} (hL : L.map tx = spl 32 (tx x)) {i : Int} (h : ¬ i < ((L.drop 1).length : Int)) : ((L.drop 1).take i.toNat).map (fun y => numW (tx y)) = ((spl 32 (tx x)).drop 1).map numW := by
  rw [takeA (by omega), ← hL, ← List.map_drop, List.map_map]; rfl
theorem hp_no {x : ByteArray} (h : (x.extract 0 5 = ⟨#[102, 105, 108, 108, 32]⟩) = False) : (decide ((#[102, 105, 108, 108, 32] : Array UInt8).size ≤ x.size) && decide (x.extract 0 (#[102, 105, 108, 108, 32] : Array UInt8).size = ⟨#[102, 105, 108, 108, 32]⟩)) = false := by
  have e : (#[102, 105, 108, 108, 32] : Array UInt8).size = 5 := rfl
  rw [e, decide_eq_false (of_eq_false h), Bool.and_false]
theorem pre5 {x : ByteArray} (h : (decide ((#[102, 105, 108, 108, 32] : Array UInt8).size ≤ x.size) && decide (x.extract 0 (#[102, 105, 108, 108, 32] : Array UInt8).size = ⟨#[102, 105, 108, 108, 32]⟩)) = true) : 5 ≤ x.size ∧ x.extract 0 5 = ⟨#[102, 105, 108, 108, 32]⟩ := by
  simp only [Bool.and_eq_true, decide_eq_true_eq] at h
  exact h
theorem isFill_of {x : ByteArray} (h : (decide ((#[102, 105, 108, 108, 32] : Array UInt8).size ≤ x.size) && decide (x.extract 0 (#[102, 105, 108, 108, 32] : Array UInt8).size = ⟨#[102, 105, 108, 108, 32]⟩)) = true) (h2 : ¬ x = ⟨#[102, 105, 108, 108, 32]⟩) : isFill x = true := by
  obtain ⟨h3, h4⟩ := pre5 h
  refine fill_y ?_ h4
  by_cases h5 : x.size = 5
  · refine absurd ?_ h2
    rw [← h4]
    apply tx_inj
    rw [tx_ext, List.drop_zero, List.take_of_length_le (by rw [tx_len]; omega)]
  · omega
theorem isFill_not1 {x : ByteArray} (h : (decide ((#[102, 105, 108, 108, 32] : Array UInt8).size ≤ x.size) && decide (x.extract 0 (#[102, 105, 108, 108, 32] : Array UInt8).size = ⟨#[102, 105, 108, 108, 32]⟩)) = false) : isFill x = false := by
  cases hf : isFill x with
  | false => rfl
  | true =>
    simp only [isFill, Bool.and_eq_true, decide_eq_true_eq] at hf
    have h3 : (decide ((#[102, 105, 108, 108, 32] : Array UInt8).size ≤ x.size) && decide (x.extract 0 (#[102, 105, 108, 108, 32] : Array UInt8).size = ⟨#[102, 105, 108, 108, 32]⟩)) = true := by
      have e1 : (#[102, 105, 108, 108, 32] : Array UInt8).size ≤ x.size := by
        have e : (#[102, 105, 108, 108, 32] : Array UInt8).size = 5 := rfl
        omega
      have e2 : x.extract 0 (#[102, 105, 108, 108, 32] : Array UInt8).size = ⟨#[102, 105, 108, 108, 32]⟩ := hf.2
      rw [decide_eq_true e1, decide_eq_true e2]; rfl
    rw [h] at h3; cases h3
theorem isFill_not2 {x : ByteArray} (h : x = ⟨#[102, 105, 108, 108, 32]⟩) : isFill x = false := by subst h; rfl
theorem has_valid {t : Ses} {c w : Int} (ht : okSes t) (h : (decide (0 ≤ c ∧ c ≤ t.s.w - 1) && decide (0 ≤ w ∧ w ≤ t.s.h - 1)) = true) : okPix t.s c w = true := by
  rw [okPix_eq, h, Bool.and_true]
  rcases ht.sc with h1 | h1
  · exact h1
  · rw [h1] at h
    simp only [Bool.and_eq_true, decide_eq_true_eq] at h
    omega
theorem has_no {t : Ses} {c w : Int} (h : (decide (0 ≤ c ∧ c ≤ t.s.w - 1) && decide (0 ≤ w ∧ w ≤ t.s.h - 1)) = false) : okPix t.s c w = false := by rw [okPix_eq, h, Bool.and_false]
theorem w_nc : ((⟨#[110, 101, 119]⟩ : ByteArray) = ⟨#[99, 111, 108, 111, 114]⟩) = False := eq_false (by decide)
theorem w_np : ((⟨#[110, 101, 119]⟩ : ByteArray) = ⟨#[112, 105, 120, 101, 108]⟩) = False := eq_false (by decide)
theorem w_nh : ((⟨#[110, 101, 119]⟩ : ByteArray) = ⟨#[104, 105, 116]⟩) = False := eq_false (by decide)
theorem w_cn : ((⟨#[99, 111, 108, 111, 114]⟩ : ByteArray) = ⟨#[110, 101, 119]⟩) = False := eq_false (by decide)
theorem w_cp : ((⟨#[99, 111, 108, 111, 114]⟩ : ByteArray) = ⟨#[112, 105, 120, 101, 108]⟩) = False := eq_false (by decide)
theorem w_ch : ((⟨#[99, 111, 108, 111, 114]⟩ : ByteArray) = ⟨#[104, 105, 116]⟩) = False := eq_false (by decide)
theorem w_pn : ((⟨#[112, 105, 120, 101, 108]⟩ : ByteArray) = ⟨#[110, 101, 119]⟩) = False := eq_false (by decide)
theorem w_pc : ((⟨#[112, 105, 120, 101, 108]⟩ : ByteArray) = ⟨#[99, 111, 108, 111, 114]⟩) = False := eq_false (by decide)
theorem w_ph : ((⟨#[112, 105, 120, 101, 108]⟩ : ByteArray) = ⟨#[104, 105, 116]⟩) = False := eq_false (by decide)
theorem w_hn : ((⟨#[104, 105, 116]⟩ : ByteArray) = ⟨#[110, 101, 119]⟩) = False := eq_false (by decide)
theorem w_hc : ((⟨#[104, 105, 116]⟩ : ByteArray) = ⟨#[99, 111, 108, 111, 114]⟩) = False := eq_false (by decide)
theorem w_hp : ((⟨#[104, 105, 116]⟩ : ByteArray) = ⟨#[112, 105, 120, 101, 108]⟩) = False := eq_false (by decide)
def tb43 : Nat → Option VE.Spec := tabOf [(25, wkIn spSplitW), (66, wkIn spWNum), (67, wkIn spSzd), (68, wkIn spColOf), (69, wkIn spOr), (70, wkIn spHP), (71, wkIn spFillI), (72, wkIn spHasQ), (73, wkIn spPix), (36, wkIn spItoa), (74, wkIn spTop)]
theorem tb43_25 : tb43 25 = some (wkIn spSplitW) := rfl
theorem tb43_66 : tb43 66 = some (wkIn spWNum) := rfl
theorem tb43_67 : tb43 67 = some (wkIn spSzd) := rfl
theorem tb43_68 : tb43 68 = some (wkIn spColOf) := rfl
theorem tb43_69 : tb43 69 = some (wkIn spOr) := rfl
theorem tb43_70 : tb43 70 = some (wkIn spHP) := rfl
theorem tb43_71 : tb43 71 = some (wkIn spFillI) := rfl
theorem tb43_72 : tb43 72 = some (wkIn spHasQ) := rfl
theorem tb43_73 : tb43 73 = some (wkIn spPix) := rfl
theorem tb43_36 : tb43 36 = some (wkIn spItoa) := rfl
theorem tb43_74 : tb43 74 = some (wkIn spTop) := rfl
theorem tb43_ok : TabOK Tryz.prog rt0 tb43 := (tabOf_cons (by kernel_rfl) sat_strings_Split (tabOf_cons (by kernel_rfl) sat_impl_wordNumber (tabOf_cons (by kernel_rfl) sat_impl_sized (tabOf_cons (by kernel_rfl) sat_impl_ColorOf (tabOf_cons (by kernel_rfl) sat_impl_or (tabOf_cons (by kernel_rfl) sat_strings_HasPrefix (tabOf_cons (by kernel_rfl) sat_impl_session_fill (tabOf_cons (by kernel_rfl) satQ_impl_Scene_has (tabOf_cons (by kernel_rfl) sat_impl_Scene_pixel (tabOf_cons (by kernel_rfl) sat_strconv_Itoa (tabOf_cons (by kernel_rfl) sat_impl_TopFill tabOf_nil)))))))))))
@[go_sem] def sat_impl_sessip1 : VE.Plan := pF 0 (pF 1 (pF 2 (pF 3 (pF 4 (pF 5 (pF 6 (pF 7 (pF 8 (pF 9 (pF 10 (pF 11 (pA 12 (pF 13 (pF 14 (pF 15 (pA 16 (pA 17 (pA 18 pN pN) pN) pN)))) (pA 16 (pA 12 (pF 13 (pF 14 (pF 15 (pA 17 (pA 18 pN pN) pN)))) pN) pN)))))))))))))
@[go_sem] def sat_impl_sessip2 : VE.Plan := pF 0 (pF 1 (pF 2 (pF 3 (pF 4 (pF 5 (pF 6 (pF 7 (pF 8 (pF 9 (pA 10 (pA 11 (pA 12 pN pN) pN) (pA 11 (pA 10 (pA 12 pN pN) pN) pN)))))))))))
@[go_sem] def sat_impl_sessip3 : VE.Plan := pF 0 (pF 1 (pF 4 (pF 5 (pF 9 (pF 10 (pF 14 (pF 15 (pA 2 (pF 3 (pA 6 (pF 7 (pF 8 (pA 11 (pF 12 (pF 13 (pA 16 (pF 17 (pA 18 pN pN)) pN))) pN))) pN)) pN))))))))
section
attribute [local go_sem] Tryz.f43 tb43_25 tb43_66 tb43_67 tb43_68 tb43_69 tb43_70 tb43_71 tb43_72 tb43_73 tb43_36 tb43_74 spLineI_q spLineI_A spLineI_B spLineI_d spLineI_pre spLineI_post spSplitW_q spSplitW_A spSplitW_pre spSplitW_post spWNum_q spWNum_A spWNum_pre spWNum_post spSzd_q spSzd_A spSzd_pre spSzd_post spColOf_q spColOf_A spColOf_pre spColOf_post spOr_q spOr_A spOr_pre spOr_post spHP_q spHP_A spHP_pre spHP_post spFillI_q spFillI_A spFillI_B spFillI_d spFillI_pre spFillI_post spHasQ_q spHasQ_A spHasQ_pre spHasQ_post spPix_q spPix_A spPix_pre spPix_post spItoa_q spItoa_A spItoa_pre spItoa_post spTop_q spTop_A spTop_pre spTop_post
set_option maxHeartbeats 20000000 in
theorem sat_impl_session_line_0 : Sat Tryz.prog rt0 43 (wkOut spLineI) := by
  refine fn_sat hm ttok (tab := tb43) tb43_ok Tryz.func43 (c := Tryz.f43.body.getD .skip) (by kernel_rfl) (ts := [.tmp 4]) (by kernel_rfl) Tryz.ntmps43 (sq := fun id => !(id == 14 || id == 29 || id == 30)) (by kernel_rfl) ?_
  intro args ins pk hpre0 hpk
  obtain ⟨⟨t, x⟩, rfl, rfl, hpre, hdec⟩ := famPreM_ex hpre0
  clear hpre0 hdec
  try simp only [spLineI_pre] at hpre
  replace hpk : pk + 0 ≤ pickLimit := hpk
  refine ⟨nle rfl, ?_⟩
  simp (maxSteps := 1000000) only [go_sem, List.take_length]
  repeat' first | apply And.intro | intro _ | omega | assumption | with_reducible rfl
  all_goals try (refine drawI sat_impl_sessip1 (by decide +kernel) ?_; simp (maxSteps := 1000000) only [go_sem, planW, stepW, Go.VE.stepT, Go.VE.clearO, List.take_length]; repeat' first | apply And.intro | intro _ | omega | assumption | with_reducible rfl)
  all_goals try (refine drawI sat_impl_sessip2 (by decide +kernel) ?_; simp (maxSteps := 1000000) only [go_sem, planW, stepW, Go.VE.stepT, Go.VE.clearO, List.take_length]; repeat' first | apply And.intro | intro _ | omega | assumption | with_reducible rfl)
  all_goals try (refine drawI sat_impl_sessip3 (by decide +kernel) ?_; simp (maxSteps := 1000000) only [go_sem, planW, stepW, Go.VE.stepT, Go.VE.clearO, List.take_length]; repeat' first | apply And.intro | intro _ | omega | assumption | with_reducible rfl)
  any_goals
    rename_i L hL
    have hF := spl_few2 hL
    refine loopS (α := (List Int) × Int) false [2, 3, 6, 7, 8, 13, 14, 15, 18, 19, 20, 21, 22, 23, 24, 25, 26, 27, 28, 45, 56, 82, 89, 95, 101, 113, 134, 164, 187] (fun σ => [gId (σ.get 6)]) (fun σ x => [(6, .c (.own (gId (σ.get 6)) (x.1).length false)), (18, I x.2)]) (fun σ x => [(gId (σ.get 6), some ⟨(x.1).map intC, 1, 3, true, false⟩)]) (fun (n, i) => 0) (fun σ => (gL intCd σ (σ.get 6), gI (σ.get 18))) (fun σ τ => [(gId (σ.get 6), gId (τ.get 6))]) (fun (n, i) => (0 ≤ i ∧ i ≤ (L.drop 1).length) ∧ n = ((L.drop 1).take i.toNat).map (fun y => numW (tx y))) (fun (n, i) => ((L.drop 1).length - i).toNat) ⟨by (simp (maxSteps := 1000000) only [go_sem, List.take_length]; (repeat' first | apply And.intro | intro _ | omega | assumption | with_reducible rfl); all_goals (first | rfl | omega | skip)), ?_⟩
    rintro ⟨n, i⟩ hinv
    try dsimp only at hinv
    rcases elemAt (L.drop 1) i (by omega) with ⟨hlt, y, hk⟩ | hlt
    · have hlt2 := of_eq_true hlt
      simp (maxSteps := 1000000) only [go_sem, List.take_length, hlt, hk]
      repeat' first | apply And.intro | intro _ | omega | assumption | with_reducible rfl
      all_goals (first | (exact trivial) | omega | decide | ((have h9 := hpre.1.rng; omega); done) | ((have h9 := hF.1; rw [List.length_drop] at hlt2; omega); done) | ((rw [‹x = _›, line_any]; simp only [List.append_assoc]; exact seC_wk ⟨t.s, t.c, 0⟩); done) | ((rw [‹x = _›, line_even]; simp only [List.append_assoc]; exact seC_wk ⟨t.s, t.c, 1⟩); done) | ((have h9 := hF.2 _ (List.mem_of_mem_drop (List.mem_of_getElem? hk)); omega); done) | ((have h9 : n.length ≤ L.length := (by rw [hinv.2, List.length_map, List.length_take, List.length_drop]; omega); omega); done) | ((rw [hinv.2, takeN hk hinv.1.1, List.map_append]; rfl); done) | ((rw [ByteArray.size_extract]; omega); done) | (exact hpre.1) | (exact hpre.1.rng) | (exact hpre.1.fs) | ((have h9 := (pre5 ‹(decide _ && decide _) = true›).1; omega); done) | (rw [‹x = _›, line_any]; (try rfl); done) | (rw [‹x = _›, line_even]; (try rfl); done) | (rw [line_fil (isFill_of ‹_› ‹_›)]; (try rfl); done) | ((rw [hfin ‹_› ‹_› (isFill_not1 ‹_›)]); done) | ((rw [hfin ‹_› ‹_› (isFill_not2 ‹x = _›)]); done) | (rw [hres]; (try rfl); done) | (rw [hres, openT_y ‹_›]; (try rfl); done) | (rw [hres, openT_n ‹_›]; (try rfl); done) | ((rw [hres, colT_y ‹_›]); done) | ((rw [hres, colT_y ‹_›, ‹colOk _ _ _ _ = true›]; rfl); done) | (rw [hres, colT_y ‹_›, if_pos ‹_›]; (try rfl); done) | ((rw [hres, colT_n ‹_›]); done) | ((rw [hres, colT_n ‹_›, ‹colOk _ _ _ _ = false›]; rfl); done) | ((rw [hres, colT_n ‹_›]; rfl); done) | ((rw [hres, show_no (has_no ‹_›)]); done) | ((have hy := has_valid hpre.1 ‹(decide (0 ≤ a0 ∧ a0 ≤ t.s.w - 1) && decide (0 ≤ a1 ∧ a1 ≤ t.s.h - 1)) = true›; have ha := okp_all hy; have hc := col_rng ha.2.2.2.2; have g1 := it5a hc.1.1; have g2 := it5a hc.1.2; have g3 := it5a hc.2.1; have g4 := it5a hc.2.2; have e1 : (#[32] : Array UInt8).size = 1 := rfl; omega); done) | ((have hy := has_valid hpre.1 ‹(decide (0 ≤ a0 ∧ a0 ≤ t.s.w - 1) && decide (0 ≤ a1 ∧ a1 ≤ t.s.h - 1)) = true›; have ha := okp_all hy; have hc := col_rng ha.2.2.2.2; have g1 := it5a hc.1.1; have g2 := it5a hc.1.2; have g3 := it5a hc.2.1; have g4 := it5a hc.2.2; have e1 : (#[32] : Array UInt8).size = 1 := rfl; exact (vScn_parts ha.1).2.2); done) | ((have hy := has_valid hpre.1 ‹(decide (0 ≤ a0 ∧ a0 ≤ t.s.w - 1) && decide (0 ≤ a1 ∧ a1 ≤ t.s.h - 1)) = true›; have ha := okp_all hy; have hc := col_rng ha.2.2.2.2; have g1 := it5a hc.1.1; have g2 := it5a hc.1.2; have g3 := it5a hc.2.1; have g4 := it5a hc.2.2; have e1 : (#[32] : Array UInt8).size = 1 := rfl; rw [hres, show_yes hy]; rfl); done) | (rw [hres, hit_n ‹_›]; (try rfl); done) | (rw [hres, hit_y ‹_›]; (try rfl); done) | ((have h9 := topF_bds (s := t.s) ⟨a0, a1⟩; omega); done) | (skip; done))
    · have hlt2 := of_eq_false hlt
      obtain ⟨w, hw⟩ : ∃ w, L[0]? = some w := ⟨_, List.getElem?_eq_getElem (by omega)⟩
      by_cases hwn : w = ⟨#[110, 101, 119]⟩
      · subst hwn
        have hxa : (x = ⟨#[97, 110, 121]⟩) = False := eq_false (fun e => absurd (hd_any hL hw e) (by decide))
        have hxe : (x = ⟨#[101, 118, 101, 110]⟩) = False := eq_false (fun e => absurd (hd_even hL hw e) (by decide))
        have hxf : (x.extract 0 5 = ⟨#[102, 105, 108, 108, 32]⟩) = False := eq_false (fun e => absurd (hd_fill hL hw e) (by decide))
        have hxp := hp_no hxf
        have hline : lineT t x = numT t ⟨#[110, 101, 119]⟩ n := by rw [line_num (hd_w hL hw) (by decide) (by decide) (by decide), ← ns_of hL hlt2, ← hinv.2]
        by_cases hN : (n.length : Int) = 2
        · have hNt := eq_true hN
          obtain ⟨a0, ha0⟩ : ∃ a, n[0]? = some a := ⟨_, List.getElem?_eq_getElem (by omega)⟩
          obtain ⟨a1, ha1⟩ : ∃ a, n[1]? = some a := ⟨_, List.getElem?_eq_getElem (by omega)⟩
          have hres := hline.trans (num_new hN ha0 ha1)
          simp (maxSteps := 1000000) only [go_sem, List.take_length, hlt, hw, w_nc, w_np, w_nh, hxa, hxe, hxp, hNt, ha0, ha1]
          repeat' first | apply And.intro | intro _ | omega | assumption | with_reducible rfl
          all_goals try (refine drawI sat_impl_sessip1 (by decide +kernel) ?_; simp (maxSteps := 1000000) only [go_sem, planW, stepW, Go.VE.stepT, Go.VE.clearO, List.take_length, hlt, hw, w_nc, w_np, w_nh, hxa, hxe, hxp, hNt, ha0, ha1]; repeat' first | apply And.intro | intro _ | omega | assumption | with_reducible rfl)
          all_goals try (refine drawI sat_impl_sessip2 (by decide +kernel) ?_; simp (maxSteps := 1000000) only [go_sem, planW, stepW, Go.VE.stepT, Go.VE.clearO, List.take_length, hlt, hw, w_nc, w_np, w_nh, hxa, hxe, hxp, hNt, ha0, ha1]; repeat' first | apply And.intro | intro _ | omega | assumption | with_reducible rfl)
          all_goals try (refine drawI sat_impl_sessip3 (by decide +kernel) ?_; simp (maxSteps := 1000000) only [go_sem, planW, stepW, Go.VE.stepT, Go.VE.clearO, List.take_length, hlt, hw, w_nc, w_np, w_nh, hxa, hxe, hxp, hNt, ha0, ha1]; repeat' first | apply And.intro | intro _ | omega | assumption | with_reducible rfl)
          all_goals (first | (exact trivial) | omega | decide | ((have h9 := hpre.1.rng; omega); done) | ((have h9 := hF.1; rw [List.length_drop] at hlt2; omega); done) | ((rw [‹x = _›, line_any]; simp only [List.append_assoc]; exact seC_wk ⟨t.s, t.c, 0⟩); done) | ((rw [‹x = _›, line_even]; simp only [List.append_assoc]; exact seC_wk ⟨t.s, t.c, 1⟩); done) | ((have h9 := hF.2 _ (List.mem_of_mem_drop (List.mem_of_getElem? hk)); omega); done) | ((have h9 : n.length ≤ L.length := (by rw [hinv.2, List.length_map, List.length_take, List.length_drop]; omega); omega); done) | ((rw [hinv.2, takeN hk hinv.1.1, List.map_append]; rfl); done) | ((rw [ByteArray.size_extract]; omega); done) | (exact hpre.1) | (exact hpre.1.rng) | (exact hpre.1.fs) | ((have h9 := (pre5 ‹(decide _ && decide _) = true›).1; omega); done) | (rw [‹x = _›, line_any]; (try rfl); done) | (rw [‹x = _›, line_even]; (try rfl); done) | (rw [line_fil (isFill_of ‹_› ‹_›)]; (try rfl); done) | ((rw [hfin ‹_› ‹_› (isFill_not1 ‹_›)]); done) | ((rw [hfin ‹_› ‹_› (isFill_not2 ‹x = _›)]); done) | (rw [hres]; (try rfl); done) | (rw [hres, openT_y ‹_›]; (try rfl); done) | (rw [hres, openT_n ‹_›]; (try rfl); done) | ((rw [hres, colT_y ‹_›]); done) | ((rw [hres, colT_y ‹_›, ‹colOk _ _ _ _ = true›]; rfl); done) | (rw [hres, colT_y ‹_›, if_pos ‹_›]; (try rfl); done) | ((rw [hres, colT_n ‹_›]); done) | ((rw [hres, colT_n ‹_›, ‹colOk _ _ _ _ = false›]; rfl); done) | ((rw [hres, colT_n ‹_›]; rfl); done) | ((rw [hres, show_no (has_no ‹_›)]); done) | ((have hy := has_valid hpre.1 ‹(decide (0 ≤ a0 ∧ a0 ≤ t.s.w - 1) && decide (0 ≤ a1 ∧ a1 ≤ t.s.h - 1)) = true›; have ha := okp_all hy; have hc := col_rng ha.2.2.2.2; have g1 := it5a hc.1.1; have g2 := it5a hc.1.2; have g3 := it5a hc.2.1; have g4 := it5a hc.2.2; have e1 : (#[32] : Array UInt8).size = 1 := rfl; omega); done) | ((have hy := has_valid hpre.1 ‹(decide (0 ≤ a0 ∧ a0 ≤ t.s.w - 1) && decide (0 ≤ a1 ∧ a1 ≤ t.s.h - 1)) = true›; have ha := okp_all hy; have hc := col_rng ha.2.2.2.2; have g1 := it5a hc.1.1; have g2 := it5a hc.1.2; have g3 := it5a hc.2.1; have g4 := it5a hc.2.2; have e1 : (#[32] : Array UInt8).size = 1 := rfl; exact (vScn_parts ha.1).2.2); done) | ((have hy := has_valid hpre.1 ‹(decide (0 ≤ a0 ∧ a0 ≤ t.s.w - 1) && decide (0 ≤ a1 ∧ a1 ≤ t.s.h - 1)) = true›; have ha := okp_all hy; have hc := col_rng ha.2.2.2.2; have g1 := it5a hc.1.1; have g2 := it5a hc.1.2; have g3 := it5a hc.2.1; have g4 := it5a hc.2.2; have e1 : (#[32] : Array UInt8).size = 1 := rfl; rw [hres, show_yes hy]; rfl); done) | (rw [hres, hit_n ‹_›]; (try rfl); done) | (rw [hres, hit_y ‹_›]; (try rfl); done) | ((have h9 := topF_bds (s := t.s) ⟨a0, a1⟩; omega); done) | (skip; done))
        · have hNt := eq_false hN
          have hres := hline.trans (num_what (fun _ => hN) (fun e => absurd e (by decide)) (fun e => absurd e (by decide)) (fun e => absurd e (by decide)))
          simp (maxSteps := 1000000) only [go_sem, List.take_length, hlt, hw, w_nc, w_np, w_nh, hxa, hxe, hxp, hNt]
          repeat' first | apply And.intro | intro _ | omega | assumption | with_reducible rfl
          all_goals try (refine drawI sat_impl_sessip1 (by decide +kernel) ?_; simp (maxSteps := 1000000) only [go_sem, planW, stepW, Go.VE.stepT, Go.VE.clearO, List.take_length, hlt, hw, w_nc, w_np, w_nh, hxa, hxe, hxp, hNt]; repeat' first | apply And.intro | intro _ | omega | assumption | with_reducible rfl)
          all_goals try (refine drawI sat_impl_sessip2 (by decide +kernel) ?_; simp (maxSteps := 1000000) only [go_sem, planW, stepW, Go.VE.stepT, Go.VE.clearO, List.take_length, hlt, hw, w_nc, w_np, w_nh, hxa, hxe, hxp, hNt]; repeat' first | apply And.intro | intro _ | omega | assumption | with_reducible rfl)
          all_goals try (refine drawI sat_impl_sessip3 (by decide +kernel) ?_; simp (maxSteps := 1000000) only [go_sem, planW, stepW, Go.VE.stepT, Go.VE.clearO, List.take_length, hlt, hw, w_nc, w_np, w_nh, hxa, hxe, hxp, hNt]; repeat' first | apply And.intro | intro _ | omega | assumption | with_reducible rfl)
          all_goals (first | (exact trivial) | omega | decide | ((have h9 := hpre.1.rng; omega); done) | ((have h9 := hF.1; rw [List.length_drop] at hlt2; omega); done) | ((rw [‹x = _›, line_any]; simp only [List.append_assoc]; exact seC_wk ⟨t.s, t.c, 0⟩); done) | ((rw [‹x = _›, line_even]; simp only [List.append_assoc]; exact seC_wk ⟨t.s, t.c, 1⟩); done) | ((have h9 := hF.2 _ (List.mem_of_mem_drop (List.mem_of_getElem? hk)); omega); done) | ((have h9 : n.length ≤ L.length := (by rw [hinv.2, List.length_map, List.length_take, List.length_drop]; omega); omega); done) | ((rw [hinv.2, takeN hk hinv.1.1, List.map_append]; rfl); done) | ((rw [ByteArray.size_extract]; omega); done) | (exact hpre.1) | (exact hpre.1.rng) | (exact hpre.1.fs) | ((have h9 := (pre5 ‹(decide _ && decide _) = true›).1; omega); done) | (rw [‹x = _›, line_any]; (try rfl); done) | (rw [‹x = _›, line_even]; (try rfl); done) | (rw [line_fil (isFill_of ‹_› ‹_›)]; (try rfl); done) | ((rw [hfin ‹_› ‹_› (isFill_not1 ‹_›)]); done) | ((rw [hfin ‹_› ‹_› (isFill_not2 ‹x = _›)]); done) | (rw [hres]; (try rfl); done) | (rw [hres, openT_y ‹_›]; (try rfl); done) | (rw [hres, openT_n ‹_›]; (try rfl); done) | ((rw [hres, colT_y ‹_›]); done) | ((rw [hres, colT_y ‹_›, ‹colOk _ _ _ _ = true›]; rfl); done) | (rw [hres, colT_y ‹_›, if_pos ‹_›]; (try rfl); done) | ((rw [hres, colT_n ‹_›]); done) | ((rw [hres, colT_n ‹_›, ‹colOk _ _ _ _ = false›]; rfl); done) | ((rw [hres, colT_n ‹_›]; rfl); done) | ((rw [hres, show_no (has_no ‹_›)]); done) | ((have hy := has_valid hpre.1 ‹(decide (0 ≤ a0 ∧ a0 ≤ t.s.w - 1) && decide (0 ≤ a1 ∧ a1 ≤ t.s.h - 1)) = true›; have ha := okp_all hy; have hc := col_rng ha.2.2.2.2; have g1 := it5a hc.1.1; have g2 := it5a hc.1.2; have g3 := it5a hc.2.1; have g4 := it5a hc.2.2; have e1 : (#[32] : Array UInt8).size = 1 := rfl; omega); done) | ((have hy := has_valid hpre.1 ‹(decide (0 ≤ a0 ∧ a0 ≤ t.s.w - 1) && decide (0 ≤ a1 ∧ a1 ≤ t.s.h - 1)) = true›; have ha := okp_all hy; have hc := col_rng ha.2.2.2.2; have g1 := it5a hc.1.1; have g2 := it5a hc.1.2; have g3 := it5a hc.2.1; have g4 := it5a hc.2.2; have e1 : (#[32] : Array UInt8).size = 1 := rfl; exact (vScn_parts ha.1).2.2); done) | ((have hy := has_valid hpre.1 ‹(decide (0 ≤ a0 ∧ a0 ≤ t.s.w - 1) && decide (0 ≤ a1 ∧ a1 ≤ t.s.h - 1)) = true›; have ha := okp_all hy; have hc := col_rng ha.2.2.2.2; have g1 := it5a hc.1.1; have g2 := it5a hc.1.2; have g3 := it5a hc.2.1; have g4 := it5a hc.2.2; have e1 : (#[32] : Array UInt8).size = 1 := rfl; rw [hres, show_yes hy]; rfl); done) | (rw [hres, hit_n ‹_›]; (try rfl); done) | (rw [hres, hit_y ‹_›]; (try rfl); done) | ((have h9 := topF_bds (s := t.s) ⟨a0, a1⟩; omega); done) | (skip; done))
      by_cases hwc : w = ⟨#[99, 111, 108, 111, 114]⟩
      · subst hwc
        have hxa : (x = ⟨#[97, 110, 121]⟩) = False := eq_false (fun e => absurd (hd_any hL hw e) (by decide))
        have hxe : (x = ⟨#[101, 118, 101, 110]⟩) = False := eq_false (fun e => absurd (hd_even hL hw e) (by decide))
        have hxf : (x.extract 0 5 = ⟨#[102, 105, 108, 108, 32]⟩) = False := eq_false (fun e => absurd (hd_fill hL hw e) (by decide))
        have hxp := hp_no hxf
        have hline : lineT t x = numT t ⟨#[99, 111, 108, 111, 114]⟩ n := by rw [line_num (hd_w hL hw) (by decide) (by decide) (by decide), ← ns_of hL hlt2, ← hinv.2]
        by_cases hN : (n.length : Int) = 4
        · have hNt := eq_true hN
          obtain ⟨a0, ha0⟩ : ∃ a, n[0]? = some a := ⟨_, List.getElem?_eq_getElem (by omega)⟩
          obtain ⟨a1, ha1⟩ : ∃ a, n[1]? = some a := ⟨_, List.getElem?_eq_getElem (by omega)⟩
          obtain ⟨a2, ha2⟩ : ∃ a, n[2]? = some a := ⟨_, List.getElem?_eq_getElem (by omega)⟩
          obtain ⟨a3, ha3⟩ : ∃ a, n[3]? = some a := ⟨_, List.getElem?_eq_getElem (by omega)⟩
          have hres := hline.trans (num_col hN ha0 ha1 ha2 ha3)
          simp (maxSteps := 1000000) only [go_sem, List.take_length, hlt, hw, w_cn, w_cp, w_ch, hxa, hxe, hxp, hNt, ha0, ha1, ha2, ha3]
          repeat' first | apply And.intro | intro _ | omega | assumption | with_reducible rfl
          all_goals try (refine drawI sat_impl_sessip1 (by decide +kernel) ?_; simp (maxSteps := 1000000) only [go_sem, planW, stepW, Go.VE.stepT, Go.VE.clearO, List.take_length, hlt, hw, w_cn, w_cp, w_ch, hxa, hxe, hxp, hNt, ha0, ha1, ha2, ha3]; repeat' first | apply And.intro | intro _ | omega | assumption | with_reducible rfl)
          all_goals try (refine drawI sat_impl_sessip2 (by decide +kernel) ?_; simp (maxSteps := 1000000) only [go_sem, planW, stepW, Go.VE.stepT, Go.VE.clearO, List.take_length, hlt, hw, w_cn, w_cp, w_ch, hxa, hxe, hxp, hNt, ha0, ha1, ha2, ha3]; repeat' first | apply And.intro | intro _ | omega | assumption | with_reducible rfl)
          all_goals try (refine drawI sat_impl_sessip3 (by decide +kernel) ?_; simp (maxSteps := 1000000) only [go_sem, planW, stepW, Go.VE.stepT, Go.VE.clearO, List.take_length, hlt, hw, w_cn, w_cp, w_ch, hxa, hxe, hxp, hNt, ha0, ha1, ha2, ha3]; repeat' first | apply And.intro | intro _ | omega | assumption | with_reducible rfl)
          all_goals (first | (exact trivial) | omega | decide | ((have h9 := hpre.1.rng; omega); done) | ((have h9 := hF.1; rw [List.length_drop] at hlt2; omega); done) | ((rw [‹x = _›, line_any]; simp only [List.append_assoc]; exact seC_wk ⟨t.s, t.c, 0⟩); done) | ((rw [‹x = _›, line_even]; simp only [List.append_assoc]; exact seC_wk ⟨t.s, t.c, 1⟩); done) | ((have h9 := hF.2 _ (List.mem_of_mem_drop (List.mem_of_getElem? hk)); omega); done) | ((have h9 : n.length ≤ L.length := (by rw [hinv.2, List.length_map, List.length_take, List.length_drop]; omega); omega); done) | ((rw [hinv.2, takeN hk hinv.1.1, List.map_append]; rfl); done) | ((rw [ByteArray.size_extract]; omega); done) | (exact hpre.1) | (exact hpre.1.rng) | (exact hpre.1.fs) | ((have h9 := (pre5 ‹(decide _ && decide _) = true›).1; omega); done) | (rw [‹x = _›, line_any]; (try rfl); done) | (rw [‹x = _›, line_even]; (try rfl); done) | (rw [line_fil (isFill_of ‹_› ‹_›)]; (try rfl); done) | ((rw [hfin ‹_› ‹_› (isFill_not1 ‹_›)]); done) | ((rw [hfin ‹_› ‹_› (isFill_not2 ‹x = _›)]); done) | (rw [hres]; (try rfl); done) | (rw [hres, openT_y ‹_›]; (try rfl); done) | (rw [hres, openT_n ‹_›]; (try rfl); done) | ((rw [hres, colT_y ‹_›]); done) | ((rw [hres, colT_y ‹_›, ‹colOk _ _ _ _ = true›]; rfl); done) | (rw [hres, colT_y ‹_›, if_pos ‹_›]; (try rfl); done) | ((rw [hres, colT_n ‹_›]); done) | ((rw [hres, colT_n ‹_›, ‹colOk _ _ _ _ = false›]; rfl); done) | ((rw [hres, colT_n ‹_›]; rfl); done) | ((rw [hres, show_no (has_no ‹_›)]); done) | ((have hy := has_valid hpre.1 ‹(decide (0 ≤ a0 ∧ a0 ≤ t.s.w - 1) && decide (0 ≤ a1 ∧ a1 ≤ t.s.h - 1)) = true›; have ha := okp_all hy; have hc := col_rng ha.2.2.2.2; have g1 := it5a hc.1.1; have g2 := it5a hc.1.2; have g3 := it5a hc.2.1; have g4 := it5a hc.2.2; have e1 : (#[32] : Array UInt8).size = 1 := rfl; omega); done) | ((have hy := has_valid hpre.1 ‹(decide (0 ≤ a0 ∧ a0 ≤ t.s.w - 1) && decide (0 ≤ a1 ∧ a1 ≤ t.s.h - 1)) = true›; have ha := okp_all hy; have hc := col_rng ha.2.2.2.2; have g1 := it5a hc.1.1; have g2 := it5a hc.1.2; have g3 := it5a hc.2.1; have g4 := it5a hc.2.2; have e1 : (#[32] : Array UInt8).size = 1 := rfl; exact (vScn_parts ha.1).2.2); done) | ((have hy := has_valid hpre.1 ‹(decide (0 ≤ a0 ∧ a0 ≤ t.s.w - 1) && decide (0 ≤ a1 ∧ a1 ≤ t.s.h - 1)) = true›; have ha := okp_all hy; have hc := col_rng ha.2.2.2.2; have g1 := it5a hc.1.1; have g2 := it5a hc.1.2; have g3 := it5a hc.2.1; have g4 := it5a hc.2.2; have e1 : (#[32] : Array UInt8).size = 1 := rfl; rw [hres, show_yes hy]; rfl); done) | (rw [hres, hit_n ‹_›]; (try rfl); done) | (rw [hres, hit_y ‹_›]; (try rfl); done) | ((have h9 := topF_bds (s := t.s) ⟨a0, a1⟩; omega); done) | (skip; done))
        · have hNt := eq_false hN
          have hres := hline.trans (num_what (fun e => absurd e (by decide)) (fun _ => hN) (fun e => absurd e (by decide)) (fun e => absurd e (by decide)))
          simp (maxSteps := 1000000) only [go_sem, List.take_length, hlt, hw, w_cn, w_cp, w_ch, hxa, hxe, hxp, hNt]
          repeat' first | apply And.intro | intro _ | omega | assumption | with_reducible rfl
          all_goals try (refine drawI sat_impl_sessip1 (by decide +kernel) ?_; simp (maxSteps := 1000000) only [go_sem, planW, stepW, Go.VE.stepT, Go.VE.clearO, List.take_length, hlt, hw, w_cn, w_cp, w_ch, hxa, hxe, hxp, hNt]; repeat' first | apply And.intro | intro _ | omega | assumption | with_reducible rfl)
          all_goals try (refine drawI sat_impl_sessip2 (by decide +kernel) ?_; simp (maxSteps := 1000000) only [go_sem, planW, stepW, Go.VE.stepT, Go.VE.clearO, List.take_length, hlt, hw, w_cn, w_cp, w_ch, hxa, hxe, hxp, hNt]; repeat' first | apply And.intro | intro _ | omega | assumption | with_reducible rfl)
          all_goals try (refine drawI sat_impl_sessip3 (by decide +kernel) ?_; simp (maxSteps := 1000000) only [go_sem, planW, stepW, Go.VE.stepT, Go.VE.clearO, List.take_length, hlt, hw, w_cn, w_cp, w_ch, hxa, hxe, hxp, hNt]; repeat' first | apply And.intro | intro _ | omega | assumption | with_reducible rfl)
          all_goals (first | (exact trivial) | omega | decide | ((have h9 := hpre.1.rng; omega); done) | ((have h9 := hF.1; rw [List.length_drop] at hlt2; omega); done) | ((rw [‹x = _›, line_any]; simp only [List.append_assoc]; exact seC_wk ⟨t.s, t.c, 0⟩); done) | ((rw [‹x = _›, line_even]; simp only [List.append_assoc]; exact seC_wk ⟨t.s, t.c, 1⟩); done) | ((have h9 := hF.2 _ (List.mem_of_mem_drop (List.mem_of_getElem? hk)); omega); done) | ((have h9 : n.length ≤ L.length := (by rw [hinv.2, List.length_map, List.length_take, List.length_drop]; omega); omega); done) | ((rw [hinv.2, takeN hk hinv.1.1, List.map_append]; rfl); done) | ((rw [ByteArray.size_extract]; omega); done) | (exact hpre.1) | (exact hpre.1.rng) | (exact hpre.1.fs) | ((have h9 := (pre5 ‹(decide _ && decide _) = true›).1; omega); done) | (rw [‹x = _›, line_any]; (try rfl); done) | (rw [‹x = _›, line_even]; (try rfl); done) | (rw [line_fil (isFill_of ‹_› ‹_›)]; (try rfl); done) | ((rw [hfin ‹_› ‹_› (isFill_not1 ‹_›)]); done) | ((rw [hfin ‹_› ‹_› (isFill_not2 ‹x = _›)]); done) | (rw [hres]; (try rfl); done) | (rw [hres, openT_y ‹_›]; (try rfl); done) | (rw [hres, openT_n ‹_›]; (try rfl); done) | ((rw [hres, colT_y ‹_›]); done) | ((rw [hres, colT_y ‹_›, ‹colOk _ _ _ _ = true›]; rfl); done) | (rw [hres, colT_y ‹_›, if_pos ‹_›]; (try rfl); done) | ((rw [hres, colT_n ‹_›]); done) | ((rw [hres, colT_n ‹_›, ‹colOk _ _ _ _ = false›]; rfl); done) | ((rw [hres, colT_n ‹_›]; rfl); done) | ((rw [hres, show_no (has_no ‹_›)]); done) | ((have hy := has_valid hpre.1 ‹(decide (0 ≤ a0 ∧ a0 ≤ t.s.w - 1) && decide (0 ≤ a1 ∧ a1 ≤ t.s.h - 1)) = true›; have ha := okp_all hy; have hc := col_rng ha.2.2.2.2; have g1 := it5a hc.1.1; have g2 := it5a hc.1.2; have g3 := it5a hc.2.1; have g4 := it5a hc.2.2; have e1 : (#[32] : Array UInt8).size = 1 := rfl; omega); done) | ((have hy := has_valid hpre.1 ‹(decide (0 ≤ a0 ∧ a0 ≤ t.s.w - 1) && decide (0 ≤ a1 ∧ a1 ≤ t.s.h - 1)) = true›; have ha := okp_all hy; have hc := col_rng ha.2.2.2.2; have g1 := it5a hc.1.1; have g2 := it5a hc.1.2; have g3 := it5a hc.2.1; have g4 := it5a hc.2.2; have e1 : (#[32] : Array UInt8).size = 1 := rfl; exact (vScn_parts ha.1).2.2); done) | ((have hy := has_valid hpre.1 ‹(decide (0 ≤ a0 ∧ a0 ≤ t.s.w - 1) && decide (0 ≤ a1 ∧ a1 ≤ t.s.h - 1)) = true›; have ha := okp_all hy; have hc := col_rng ha.2.2.2.2; have g1 := it5a hc.1.1; have g2 := it5a hc.1.2; have g3 := it5a hc.2.1; have g4 := it5a hc.2.2; have e1 : (#[32] : Array UInt8).size = 1 := rfl; rw [hres, show_yes hy]; rfl); done) | (rw [hres, hit_n ‹_›]; (try rfl); done) | (rw [hres, hit_y ‹_›]; (try rfl); done) | ((have h9 := topF_bds (s := t.s) ⟨a0, a1⟩; omega); done) | (skip; done))
      by_cases hwp : w = ⟨#[112, 105, 120, 101, 108]⟩
      · subst hwp
        have hxa : (x = ⟨#[97, 110, 121]⟩) = False := eq_false (fun e => absurd (hd_any hL hw e) (by decide))
        have hxe : (x = ⟨#[101, 118, 101, 110]⟩) = False := eq_false (fun e => absurd (hd_even hL hw e) (by decide))
        have hxf : (x.extract 0 5 = ⟨#[102, 105, 108, 108, 32]⟩) = False := eq_false (fun e => absurd (hd_fill hL hw e) (by decide))
        have hxp := hp_no hxf
        have hline : lineT t x = numT t ⟨#[112, 105, 120, 101, 108]⟩ n := by rw [line_num (hd_w hL hw) (by decide) (by decide) (by decide), ← ns_of hL hlt2, ← hinv.2]
        by_cases hN : (n.length : Int) = 2
        · have hNt := eq_true hN
          obtain ⟨a0, ha0⟩ : ∃ a, n[0]? = some a := ⟨_, List.getElem?_eq_getElem (by omega)⟩
          obtain ⟨a1, ha1⟩ : ∃ a, n[1]? = some a := ⟨_, List.getElem?_eq_getElem (by omega)⟩
          have hres := hline.trans (num_pix hN ha0 ha1)
          simp (maxSteps := 1000000) only [go_sem, List.take_length, hlt, hw, w_pn, w_pc, w_ph, hxa, hxe, hxp, hNt, ha0, ha1]
          repeat' first | apply And.intro | intro _ | omega | assumption | with_reducible rfl
          all_goals try (refine drawI sat_impl_sessip1 (by decide +kernel) ?_; simp (maxSteps := 1000000) only [go_sem, planW, stepW, Go.VE.stepT, Go.VE.clearO, List.take_length, hlt, hw, w_pn, w_pc, w_ph, hxa, hxe, hxp, hNt, ha0, ha1]; repeat' first | apply And.intro | intro _ | omega | assumption | with_reducible rfl)
          all_goals try (refine drawI sat_impl_sessip2 (by decide +kernel) ?_; simp (maxSteps := 1000000) only [go_sem, planW, stepW, Go.VE.stepT, Go.VE.clearO, List.take_length, hlt, hw, w_pn, w_pc, w_ph, hxa, hxe, hxp, hNt, ha0, ha1]; repeat' first | apply And.intro | intro _ | omega | assumption | with_reducible rfl)
          all_goals try (refine drawI sat_impl_sessip3 (by decide +kernel) ?_; simp (maxSteps := 1000000) only [go_sem, planW, stepW, Go.VE.stepT, Go.VE.clearO, List.take_length, hlt, hw, w_pn, w_pc, w_ph, hxa, hxe, hxp, hNt, ha0, ha1]; repeat' first | apply And.intro | intro _ | omega | assumption | with_reducible rfl)
          all_goals (first | (exact trivial) | omega | decide | ((have h9 := hpre.1.rng; omega); done) | ((have h9 := hF.1; rw [List.length_drop] at hlt2; omega); done) | ((rw [‹x = _›, line_any]; simp only [List.append_assoc]; exact seC_wk ⟨t.s, t.c, 0⟩); done) | ((rw [‹x = _›, line_even]; simp only [List.append_assoc]; exact seC_wk ⟨t.s, t.c, 1⟩); done) | ((have h9 := hF.2 _ (List.mem_of_mem_drop (List.mem_of_getElem? hk)); omega); done) | ((have h9 : n.length ≤ L.length := (by rw [hinv.2, List.length_map, List.length_take, List.length_drop]; omega); omega); done) | ((rw [hinv.2, takeN hk hinv.1.1, List.map_append]; rfl); done) | ((rw [ByteArray.size_extract]; omega); done) | (exact hpre.1) | (exact hpre.1.rng) | (exact hpre.1.fs) | ((have h9 := (pre5 ‹(decide _ && decide _) = true›).1; omega); done) | (rw [‹x = _›, line_any]; (try rfl); done) | (rw [‹x = _›, line_even]; (try rfl); done) | (rw [line_fil (isFill_of ‹_› ‹_›)]; (try rfl); done) | ((rw [hfin ‹_› ‹_› (isFill_not1 ‹_›)]); done) | ((rw [hfin ‹_› ‹_› (isFill_not2 ‹x = _›)]); done) | (rw [hres]; (try rfl); done) | (rw [hres, openT_y ‹_›]; (try rfl); done) | (rw [hres, openT_n ‹_›]; (try rfl); done) | ((rw [hres, colT_y ‹_›]); done) | ((rw [hres, colT_y ‹_›, ‹colOk _ _ _ _ = true›]; rfl); done) | (rw [hres, colT_y ‹_›, if_pos ‹_›]; (try rfl); done) | ((rw [hres, colT_n ‹_›]); done) | ((rw [hres, colT_n ‹_›, ‹colOk _ _ _ _ = false›]; rfl); done) | ((rw [hres, colT_n ‹_›]; rfl); done) | ((rw [hres, show_no (has_no ‹_›)]); done) | ((have hy := has_valid hpre.1 ‹(decide (0 ≤ a0 ∧ a0 ≤ t.s.w - 1) && decide (0 ≤ a1 ∧ a1 ≤ t.s.h - 1)) = true›; have ha := okp_all hy; have hc := col_rng ha.2.2.2.2; have g1 := it5a hc.1.1; have g2 := it5a hc.1.2; have g3 := it5a hc.2.1; have g4 := it5a hc.2.2; have e1 : (#[32] : Array UInt8).size = 1 := rfl; omega); done) | ((have hy := has_valid hpre.1 ‹(decide (0 ≤ a0 ∧ a0 ≤ t.s.w - 1) && decide (0 ≤ a1 ∧ a1 ≤ t.s.h - 1)) = true›; have ha := okp_all hy; have hc := col_rng ha.2.2.2.2; have g1 := it5a hc.1.1; have g2 := it5a hc.1.2; have g3 := it5a hc.2.1; have g4 := it5a hc.2.2; have e1 : (#[32] : Array UInt8).size = 1 := rfl; exact (vScn_parts ha.1).2.2); done) | ((have hy := has_valid hpre.1 ‹(decide (0 ≤ a0 ∧ a0 ≤ t.s.w - 1) && decide (0 ≤ a1 ∧ a1 ≤ t.s.h - 1)) = true›; have ha := okp_all hy; have hc := col_rng ha.2.2.2.2; have g1 := it5a hc.1.1; have g2 := it5a hc.1.2; have g3 := it5a hc.2.1; have g4 := it5a hc.2.2; have e1 : (#[32] : Array UInt8).size = 1 := rfl; rw [hres, show_yes hy]; rfl); done) | (rw [hres, hit_n ‹_›]; (try rfl); done) | (rw [hres, hit_y ‹_›]; (try rfl); done) | ((have h9 := topF_bds (s := t.s) ⟨a0, a1⟩; omega); done) | (skip; done))
        · have hNt := eq_false hN
          have hres := hline.trans (num_what (fun e => absurd e (by decide)) (fun e => absurd e (by decide)) (fun _ => hN) (fun e => absurd e (by decide)))
          simp (maxSteps := 1000000) only [go_sem, List.take_length, hlt, hw, w_pn, w_pc, w_ph, hxa, hxe, hxp, hNt]
          repeat' first | apply And.intro | intro _ | omega | assumption | with_reducible rfl
          all_goals try (refine drawI sat_impl_sessip1 (by decide +kernel) ?_; simp (maxSteps := 1000000) only [go_sem, planW, stepW, Go.VE.stepT, Go.VE.clearO, List.take_length, hlt, hw, w_pn, w_pc, w_ph, hxa, hxe, hxp, hNt]; repeat' first | apply And.intro | intro _ | omega | assumption | with_reducible rfl)
          all_goals try (refine drawI sat_impl_sessip2 (by decide +kernel) ?_; simp (maxSteps := 1000000) only [go_sem, planW, stepW, Go.VE.stepT, Go.VE.clearO, List.take_length, hlt, hw, w_pn, w_pc, w_ph, hxa, hxe, hxp, hNt]; repeat' first | apply And.intro | intro _ | omega | assumption | with_reducible rfl)
          all_goals try (refine drawI sat_impl_sessip3 (by decide +kernel) ?_; simp (maxSteps := 1000000) only [go_sem, planW, stepW, Go.VE.stepT, Go.VE.clearO, List.take_length, hlt, hw, w_pn, w_pc, w_ph, hxa, hxe, hxp, hNt]; repeat' first | apply And.intro | intro _ | omega | assumption | with_reducible rfl)
          all_goals (first | (exact trivial) | omega | decide | ((have h9 := hpre.1.rng; omega); done) | ((have h9 := hF.1; rw [List.length_drop] at hlt2; omega); done) | ((rw [‹x = _›, line_any]; simp only [List.append_assoc]; exact seC_wk ⟨t.s, t.c, 0⟩); done) | ((rw [‹x = _›, line_even]; simp only [List.append_assoc]; exact seC_wk ⟨t.s, t.c, 1⟩); done) | ((have h9 := hF.2 _ (List.mem_of_mem_drop (List.mem_of_getElem? hk)); omega); done) | ((have h9 : n.length ≤ L.length := (by rw [hinv.2, List.length_map, List.length_take, List.length_drop]; omega); omega); done) | ((rw [hinv.2, takeN hk hinv.1.1, List.map_append]; rfl); done) | ((rw [ByteArray.size_extract]; omega); done) | (exact hpre.1) | (exact hpre.1.rng) | (exact hpre.1.fs) | ((have h9 := (pre5 ‹(decide _ && decide _) = true›).1; omega); done) | (rw [‹x = _›, line_any]; (try rfl); done) | (rw [‹x = _›, line_even]; (try rfl); done) | (rw [line_fil (isFill_of ‹_› ‹_›)]; (try rfl); done) | ((rw [hfin ‹_› ‹_› (isFill_not1 ‹_›)]); done) | ((rw [hfin ‹_› ‹_› (isFill_not2 ‹x = _›)]); done) | (rw [hres]; (try rfl); done) | (rw [hres, openT_y ‹_›]; (try rfl); done) | (rw [hres, openT_n ‹_›]; (try rfl); done) | ((rw [hres, colT_y ‹_›]); done) | ((rw [hres, colT_y ‹_›, ‹colOk _ _ _ _ = true›]; rfl); done) | (rw [hres, colT_y ‹_›, if_pos ‹_›]; (try rfl); done) | ((rw [hres, colT_n ‹_›]); done) | ((rw [hres, colT_n ‹_›, ‹colOk _ _ _ _ = false›]; rfl); done) | ((rw [hres, colT_n ‹_›]; rfl); done) | ((rw [hres, show_no (has_no ‹_›)]); done) | ((have hy := has_valid hpre.1 ‹(decide (0 ≤ a0 ∧ a0 ≤ t.s.w - 1) && decide (0 ≤ a1 ∧ a1 ≤ t.s.h - 1)) = true›; have ha := okp_all hy; have hc := col_rng ha.2.2.2.2; have g1 := it5a hc.1.1; have g2 := it5a hc.1.2; have g3 := it5a hc.2.1; have g4 := it5a hc.2.2; have e1 : (#[32] : Array UInt8).size = 1 := rfl; omega); done) | ((have hy := has_valid hpre.1 ‹(decide (0 ≤ a0 ∧ a0 ≤ t.s.w - 1) && decide (0 ≤ a1 ∧ a1 ≤ t.s.h - 1)) = true›; have ha := okp_all hy; have hc := col_rng ha.2.2.2.2; have g1 := it5a hc.1.1; have g2 := it5a hc.1.2; have g3 := it5a hc.2.1; have g4 := it5a hc.2.2; have e1 : (#[32] : Array UInt8).size = 1 := rfl; exact (vScn_parts ha.1).2.2); done) | ((have hy := has_valid hpre.1 ‹(decide (0 ≤ a0 ∧ a0 ≤ t.s.w - 1) && decide (0 ≤ a1 ∧ a1 ≤ t.s.h - 1)) = true›; have ha := okp_all hy; have hc := col_rng ha.2.2.2.2; have g1 := it5a hc.1.1; have g2 := it5a hc.1.2; have g3 := it5a hc.2.1; have g4 := it5a hc.2.2; have e1 : (#[32] : Array UInt8).size = 1 := rfl; rw [hres, show_yes hy]; rfl); done) | (rw [hres, hit_n ‹_›]; (try rfl); done) | (rw [hres, hit_y ‹_›]; (try rfl); done) | ((have h9 := topF_bds (s := t.s) ⟨a0, a1⟩; omega); done) | (skip; done))
      by_cases hwh : w = ⟨#[104, 105, 116]⟩
      · subst hwh
        have hxa : (x = ⟨#[97, 110, 121]⟩) = False := eq_false (fun e => absurd (hd_any hL hw e) (by decide))
        have hxe : (x = ⟨#[101, 118, 101, 110]⟩) = False := eq_false (fun e => absurd (hd_even hL hw e) (by decide))
        have hxf : (x.extract 0 5 = ⟨#[102, 105, 108, 108, 32]⟩) = False := eq_false (fun e => absurd (hd_fill hL hw e) (by decide))
        have hxp := hp_no hxf
        have hline : lineT t x = numT t ⟨#[104, 105, 116]⟩ n := by rw [line_num (hd_w hL hw) (by decide) (by decide) (by decide), ← ns_of hL hlt2, ← hinv.2]
        by_cases hN : (n.length : Int) = 2
        · have hNt := eq_true hN
          obtain ⟨a0, ha0⟩ : ∃ a, n[0]? = some a := ⟨_, List.getElem?_eq_getElem (by omega)⟩
          obtain ⟨a1, ha1⟩ : ∃ a, n[1]? = some a := ⟨_, List.getElem?_eq_getElem (by omega)⟩
          have hres := hline.trans (num_hit hN ha0 ha1)
          simp (maxSteps := 1000000) only [go_sem, List.take_length, hlt, hw, w_hn, w_hc, w_hp, hxa, hxe, hxp, hNt, ha0, ha1]
          repeat' first | apply And.intro | intro _ | omega | assumption | with_reducible rfl
          all_goals try (refine drawI sat_impl_sessip1 (by decide +kernel) ?_; simp (maxSteps := 1000000) only [go_sem, planW, stepW, Go.VE.stepT, Go.VE.clearO, List.take_length, hlt, hw, w_hn, w_hc, w_hp, hxa, hxe, hxp, hNt, ha0, ha1]; repeat' first | apply And.intro | intro _ | omega | assumption | with_reducible rfl)
          all_goals try (refine drawI sat_impl_sessip2 (by decide +kernel) ?_; simp (maxSteps := 1000000) only [go_sem, planW, stepW, Go.VE.stepT, Go.VE.clearO, List.take_length, hlt, hw, w_hn, w_hc, w_hp, hxa, hxe, hxp, hNt, ha0, ha1]; repeat' first | apply And.intro | intro _ | omega | assumption | with_reducible rfl)
          all_goals try (refine drawI sat_impl_sessip3 (by decide +kernel) ?_; simp (maxSteps := 1000000) only [go_sem, planW, stepW, Go.VE.stepT, Go.VE.clearO, List.take_length, hlt, hw, w_hn, w_hc, w_hp, hxa, hxe, hxp, hNt, ha0, ha1]; repeat' first | apply And.intro | intro _ | omega | assumption | with_reducible rfl)
          all_goals (first | (exact trivial) | omega | decide | ((have h9 := hpre.1.rng; omega); done) | ((have h9 := hF.1; rw [List.length_drop] at hlt2; omega); done) | ((rw [‹x = _›, line_any]; simp only [List.append_assoc]; exact seC_wk ⟨t.s, t.c, 0⟩); done) | ((rw [‹x = _›, line_even]; simp only [List.append_assoc]; exact seC_wk ⟨t.s, t.c, 1⟩); done) | ((have h9 := hF.2 _ (List.mem_of_mem_drop (List.mem_of_getElem? hk)); omega); done) | ((have h9 : n.length ≤ L.length := (by rw [hinv.2, List.length_map, List.length_take, List.length_drop]; omega); omega); done) | ((rw [hinv.2, takeN hk hinv.1.1, List.map_append]; rfl); done) | ((rw [ByteArray.size_extract]; omega); done) | (exact hpre.1) | (exact hpre.1.rng) | (exact hpre.1.fs) | ((have h9 := (pre5 ‹(decide _ && decide _) = true›).1; omega); done) | (rw [‹x = _›, line_any]; (try rfl); done) | (rw [‹x = _›, line_even]; (try rfl); done) | (rw [line_fil (isFill_of ‹_› ‹_›)]; (try rfl); done) | ((rw [hfin ‹_› ‹_› (isFill_not1 ‹_›)]); done) | ((rw [hfin ‹_› ‹_› (isFill_not2 ‹x = _›)]); done) | (rw [hres]; (try rfl); done) | (rw [hres, openT_y ‹_›]; (try rfl); done) | (rw [hres, openT_n ‹_›]; (try rfl); done) | ((rw [hres, colT_y ‹_›]); done) | ((rw [hres, colT_y ‹_›, ‹colOk _ _ _ _ = true›]; rfl); done) | (rw [hres, colT_y ‹_›, if_pos ‹_›]; (try rfl); done) | ((rw [hres, colT_n ‹_›]); done) | ((rw [hres, colT_n ‹_›, ‹colOk _ _ _ _ = false›]; rfl); done) | ((rw [hres, colT_n ‹_›]; rfl); done) | ((rw [hres, show_no (has_no ‹_›)]); done) | ((have hy := has_valid hpre.1 ‹(decide (0 ≤ a0 ∧ a0 ≤ t.s.w - 1) && decide (0 ≤ a1 ∧ a1 ≤ t.s.h - 1)) = true›; have ha := okp_all hy; have hc := col_rng ha.2.2.2.2; have g1 := it5a hc.1.1; have g2 := it5a hc.1.2; have g3 := it5a hc.2.1; have g4 := it5a hc.2.2; have e1 : (#[32] : Array UInt8).size = 1 := rfl; omega); done) | ((have hy := has_valid hpre.1 ‹(decide (0 ≤ a0 ∧ a0 ≤ t.s.w - 1) && decide (0 ≤ a1 ∧ a1 ≤ t.s.h - 1)) = true›; have ha := okp_all hy; have hc := col_rng ha.2.2.2.2; have g1 := it5a hc.1.1; have g2 := it5a hc.1.2; have g3 := it5a hc.2.1; have g4 := it5a hc.2.2; have e1 : (#[32] : Array UInt8).size = 1 := rfl; exact (vScn_parts ha.1).2.2); done) | ((have hy := has_valid hpre.1 ‹(decide (0 ≤ a0 ∧ a0 ≤ t.s.w - 1) && decide (0 ≤ a1 ∧ a1 ≤ t.s.h - 1)) = true›; have ha := okp_all hy; have hc := col_rng ha.2.2.2.2; have g1 := it5a hc.1.1; have g2 := it5a hc.1.2; have g3 := it5a hc.2.1; have g4 := it5a hc.2.2; have e1 : (#[32] : Array UInt8).size = 1 := rfl; rw [hres, show_yes hy]; rfl); done) | (rw [hres, hit_n ‹_›]; (try rfl); done) | (rw [hres, hit_y ‹_›]; (try rfl); done) | ((have h9 := topF_bds (s := t.s) ⟨a0, a1⟩; omega); done) | (skip; done))
        · have hNt := eq_false hN
          have hres := hline.trans (num_what (fun e => absurd e (by decide)) (fun e => absurd e (by decide)) (fun e => absurd e (by decide)) (fun _ => hN))
          simp (maxSteps := 1000000) only [go_sem, List.take_length, hlt, hw, w_hn, w_hc, w_hp, hxa, hxe, hxp, hNt]
          repeat' first | apply And.intro | intro _ | omega | assumption | with_reducible rfl
          all_goals try (refine drawI sat_impl_sessip1 (by decide +kernel) ?_; simp (maxSteps := 1000000) only [go_sem, planW, stepW, Go.VE.stepT, Go.VE.clearO, List.take_length, hlt, hw, w_hn, w_hc, w_hp, hxa, hxe, hxp, hNt]; repeat' first | apply And.intro | intro _ | omega | assumption | with_reducible rfl)
          all_goals try (refine drawI sat_impl_sessip2 (by decide +kernel) ?_; simp (maxSteps := 1000000) only [go_sem, planW, stepW, Go.VE.stepT, Go.VE.clearO, List.take_length, hlt, hw, w_hn, w_hc, w_hp, hxa, hxe, hxp, hNt]; repeat' first | apply And.intro | intro _ | omega | assumption | with_reducible rfl)
          all_goals try (refine drawI sat_impl_sessip3 (by decide +kernel) ?_; simp (maxSteps := 1000000) only [go_sem, planW, stepW, Go.VE.stepT, Go.VE.clearO, List.take_length, hlt, hw, w_hn, w_hc, w_hp, hxa, hxe, hxp, hNt]; repeat' first | apply And.intro | intro _ | omega | assumption | with_reducible rfl)
          all_goals (first | (exact trivial) | omega | decide | ((have h9 := hpre.1.rng; omega); done) | ((have h9 := hF.1; rw [List.length_drop] at hlt2; omega); done) | ((rw [‹x = _›, line_any]; simp only [List.append_assoc]; exact seC_wk ⟨t.s, t.c, 0⟩); done) | ((rw [‹x = _›, line_even]; simp only [List.append_assoc]; exact seC_wk ⟨t.s, t.c, 1⟩); done) | ((have h9 := hF.2 _ (List.mem_of_mem_drop (List.mem_of_getElem? hk)); omega); done) | ((have h9 : n.length ≤ L.length := (by rw [hinv.2, List.length_map, List.length_take, List.length_drop]; omega); omega); done) | ((rw [hinv.2, takeN hk hinv.1.1, List.map_append]; rfl); done) | ((rw [ByteArray.size_extract]; omega); done) | (exact hpre.1) | (exact hpre.1.rng) | (exact hpre.1.fs) | ((have h9 := (pre5 ‹(decide _ && decide _) = true›).1; omega); done) | (rw [‹x = _›, line_any]; (try rfl); done) | (rw [‹x = _›, line_even]; (try rfl); done) | (rw [line_fil (isFill_of ‹_› ‹_›)]; (try rfl); done) | ((rw [hfin ‹_› ‹_› (isFill_not1 ‹_›)]); done) | ((rw [hfin ‹_› ‹_› (isFill_not2 ‹x = _›)]); done) | (rw [hres]; (try rfl); done) | (rw [hres, openT_y ‹_›]; (try rfl); done) | (rw [hres, openT_n ‹_›]; (try rfl); done) | ((rw [hres, colT_y ‹_›]); done) | ((rw [hres, colT_y ‹_›, ‹colOk _ _ _ _ = true›]; rfl); done) | (rw [hres, colT_y ‹_›, if_pos ‹_›]; (try rfl); done) | ((rw [hres, colT_n ‹_›]); done) | ((rw [hres, colT_n ‹_›, ‹colOk _ _ _ _ = false›]; rfl); done) | ((rw [hres, colT_n ‹_›]; rfl); done) | ((rw [hres, show_no (has_no ‹_›)]); done) | ((have hy := has_valid hpre.1 ‹(decide (0 ≤ a0 ∧ a0 ≤ t.s.w - 1) && decide (0 ≤ a1 ∧ a1 ≤ t.s.h - 1)) = true›; have ha := okp_all hy; have hc := col_rng ha.2.2.2.2; have g1 := it5a hc.1.1; have g2 := it5a hc.1.2; have g3 := it5a hc.2.1; have g4 := it5a hc.2.2; have e1 : (#[32] : Array UInt8).size = 1 := rfl; omega); done) | ((have hy := has_valid hpre.1 ‹(decide (0 ≤ a0 ∧ a0 ≤ t.s.w - 1) && decide (0 ≤ a1 ∧ a1 ≤ t.s.h - 1)) = true›; have ha := okp_all hy; have hc := col_rng ha.2.2.2.2; have g1 := it5a hc.1.1; have g2 := it5a hc.1.2; have g3 := it5a hc.2.1; have g4 := it5a hc.2.2; have e1 : (#[32] : Array UInt8).size = 1 := rfl; exact (vScn_parts ha.1).2.2); done) | ((have hy := has_valid hpre.1 ‹(decide (0 ≤ a0 ∧ a0 ≤ t.s.w - 1) && decide (0 ≤ a1 ∧ a1 ≤ t.s.h - 1)) = true›; have ha := okp_all hy; have hc := col_rng ha.2.2.2.2; have g1 := it5a hc.1.1; have g2 := it5a hc.1.2; have g3 := it5a hc.2.1; have g4 := it5a hc.2.2; have e1 : (#[32] : Array UInt8).size = 1 := rfl; rw [hres, show_yes hy]; rfl); done) | (rw [hres, hit_n ‹_›]; (try rfl); done) | (rw [hres, hit_y ‹_›]; (try rfl); done) | ((have h9 := topF_bds (s := t.s) ⟨a0, a1⟩; omega); done) | (skip; done))
      have hqn := eq_false hwn
      have hqc := eq_false hwc
      have hqp := eq_false hwp
      have hqh := eq_false hwh
      have hfin : ¬ x = ⟨#[97, 110, 121]⟩ → ¬ x = ⟨#[101, 118, 101, 110]⟩ → isFill x = false → lineT t x = (⟨#[119, 104, 97, 116]⟩, t) := fun h1 h2 h3 => (line_what (hd_w hL hw) h1 h2 h3).trans (by rw [← ns_of hL hlt2, ← hinv.2]; exact num_what (fun e => absurd e hwn) (fun e => absurd e hwc) (fun e => absurd e hwp) (fun e => absurd e hwh))
      simp (maxSteps := 1000000) only [go_sem, List.take_length, hlt, hw, hqn, hqc, hqp, hqh]
      repeat' first | apply And.intro | intro _ | omega | assumption | with_reducible rfl
      all_goals try (refine drawI sat_impl_sessip1 (by decide +kernel) ?_; simp (maxSteps := 1000000) only [go_sem, planW, stepW, Go.VE.stepT, Go.VE.clearO, List.take_length, hlt, hw, hqn, hqc, hqp, hqh]; repeat' first | apply And.intro | intro _ | omega | assumption | with_reducible rfl)
      all_goals try (refine drawI sat_impl_sessip2 (by decide +kernel) ?_; simp (maxSteps := 1000000) only [go_sem, planW, stepW, Go.VE.stepT, Go.VE.clearO, List.take_length, hlt, hw, hqn, hqc, hqp, hqh]; repeat' first | apply And.intro | intro _ | omega | assumption | with_reducible rfl)
      all_goals try (refine drawI sat_impl_sessip3 (by decide +kernel) ?_; simp (maxSteps := 1000000) only [go_sem, planW, stepW, Go.VE.stepT, Go.VE.clearO, List.take_length, hlt, hw, hqn, hqc, hqp, hqh]; repeat' first | apply And.intro | intro _ | omega | assumption | with_reducible rfl)
      all_goals (first | (exact trivial) | omega | decide | ((have h9 := hpre.1.rng; omega); done) | ((have h9 := hF.1; rw [List.length_drop] at hlt2; omega); done) | ((rw [‹x = _›, line_any]; simp only [List.append_assoc]; exact seC_wk ⟨t.s, t.c, 0⟩); done) | ((rw [‹x = _›, line_even]; simp only [List.append_assoc]; exact seC_wk ⟨t.s, t.c, 1⟩); done) | ((have h9 := hF.2 _ (List.mem_of_mem_drop (List.mem_of_getElem? hk)); omega); done) | ((have h9 : n.length ≤ L.length := (by rw [hinv.2, List.length_map, List.length_take, List.length_drop]; omega); omega); done) | ((rw [hinv.2, takeN hk hinv.1.1, List.map_append]; rfl); done) | ((rw [ByteArray.size_extract]; omega); done) | (exact hpre.1) | (exact hpre.1.rng) | (exact hpre.1.fs) | ((have h9 := (pre5 ‹(decide _ && decide _) = true›).1; omega); done) | (rw [‹x = _›, line_any]; (try rfl); done) | (rw [‹x = _›, line_even]; (try rfl); done) | (rw [line_fil (isFill_of ‹_› ‹_›)]; (try rfl); done) | ((rw [hfin ‹_› ‹_› (isFill_not1 ‹_›)]); done) | ((rw [hfin ‹_› ‹_› (isFill_not2 ‹x = _›)]); done) | (rw [hres]; (try rfl); done) | (rw [hres, openT_y ‹_›]; (try rfl); done) | (rw [hres, openT_n ‹_›]; (try rfl); done) | ((rw [hres, colT_y ‹_›]); done) | ((rw [hres, colT_y ‹_›, ‹colOk _ _ _ _ = true›]; rfl); done) | (rw [hres, colT_y ‹_›, if_pos ‹_›]; (try rfl); done) | ((rw [hres, colT_n ‹_›]); done) | ((rw [hres, colT_n ‹_›, ‹colOk _ _ _ _ = false›]; rfl); done) | ((rw [hres, colT_n ‹_›]; rfl); done) | ((rw [hres, show_no (has_no ‹_›)]); done) | ((have hy := has_valid hpre.1 ‹(decide (0 ≤ a0 ∧ a0 ≤ t.s.w - 1) && decide (0 ≤ a1 ∧ a1 ≤ t.s.h - 1)) = true›; have ha := okp_all hy; have hc := col_rng ha.2.2.2.2; have g1 := it5a hc.1.1; have g2 := it5a hc.1.2; have g3 := it5a hc.2.1; have g4 := it5a hc.2.2; have e1 : (#[32] : Array UInt8).size = 1 := rfl; omega); done) | ((have hy := has_valid hpre.1 ‹(decide (0 ≤ a0 ∧ a0 ≤ t.s.w - 1) && decide (0 ≤ a1 ∧ a1 ≤ t.s.h - 1)) = true›; have ha := okp_all hy; have hc := col_rng ha.2.2.2.2; have g1 := it5a hc.1.1; have g2 := it5a hc.1.2; have g3 := it5a hc.2.1; have g4 := it5a hc.2.2; have e1 : (#[32] : Array UInt8).size = 1 := rfl; exact (vScn_parts ha.1).2.2); done) | ((have hy := has_valid hpre.1 ‹(decide (0 ≤ a0 ∧ a0 ≤ t.s.w - 1) && decide (0 ≤ a1 ∧ a1 ≤ t.s.h - 1)) = true›; have ha := okp_all hy; have hc := col_rng ha.2.2.2.2; have g1 := it5a hc.1.1; have g2 := it5a hc.1.2; have g3 := it5a hc.2.1; have g4 := it5a hc.2.2; have e1 : (#[32] : Array UInt8).size = 1 := rfl; rw [hres, show_yes hy]; rfl); done) | (rw [hres, hit_n ‹_›]; (try rfl); done) | (rw [hres, hit_y ‹_›]; (try rfl); done) | ((have h9 := topF_bds (s := t.s) ⟨a0, a1⟩; omega); done) | (skip; done))
  
  all_goals (first | ((have h9 := spl_few2 ‹List.map tx _ = _›; omega); done) | (skip; done))
end
theorem sat_impl_session_line : Sat Tryz.prog rt0 43 (wkIn spLineI) := sat_in (sat_out sat_impl_session_line_0)
end Go.Proofs.YthphndhiacikaaaGreatDoor
