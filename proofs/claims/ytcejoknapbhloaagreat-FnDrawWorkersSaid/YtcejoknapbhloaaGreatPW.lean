/- Contracts of functions of the program vectorraster, each proved for all states that fit its description. No conditions. -/
import Derived.Test.YtcejoknapbhloaaGreatPQ
import Derived.Test.YtcejoknapbhloaaGreatPV
import Derived.Test.YtcejoknapbhloaaGreatKT
import Derived.Test.YtcejoknapbhloaaGreatPU
set_option linter.unusedSimpArgs false
set_option linter.unusedVariables false
set_option maxRecDepth 100000
namespace Go.Proofs.YtcejoknapbhloaaGreat
open Go Go.VE
def hitB (s : Scn) (t : Int) (i : Nat) : Bool := decide (inStg (tbV s.w s.h t) s.w (tbV s.w s.h t).b (tbV s.w s.h t).l i)
theorem tileP_get (s : Scn) (px : List Colr) (t : Int) (i : Nat) : (tileP s px t)[i]? = px[i]?.map fun c => if hitB s t i = true then pixF s.fs ((i : Int) % s.w) ((i : Int) / s.w) else c := by
  rw [tileP, stg_get]
  simp only [hitB, decide_eq_true_eq]
def tilesP (s : Scn) (px : List Colr) (ts : List Int) : List Colr := ts.foldl (tileP s) px
theorem tilesP_get (s : Scn) (i : Nat) : ∀ (ts : List Int) (px : List Colr), (tilesP s px ts)[i]? = px[i]?.map fun c => if ts.any (hitB s · i) = true then pixF s.fs ((i : Int) % s.w) ((i : Int) / s.w) else c
  | [], px => by simp [tilesP]
  | t :: r, px => by
    have ih := tilesP_get s i r (tileP s px t)
    have e : tilesP s px (t :: r) = tilesP s (tileP s px t) r := rfl
    rw [e, ih, tileP_get, Option.map_map]
    cases px[i]? with
    | none => rfl
    | some c =>
      simp only [Option.map_some, Function.comp, List.any_cons]
      by_cases h1 : hitB s t i = true <;> by_cases h2 : r.any (hitB s · i) = true <;> simp [h1, h2]
theorem tilesP_len (s : Scn) : ∀ (ts : List Int) (px : List Colr), (tilesP s px ts).length = px.length
  | [], px => rfl
  | t :: r, px => (tilesP_len s r (tileP s px t)).trans (tileP_len s px t)
def blankP (s : Scn) : List Colr := List.replicate (s.w * s.h).toNat ⟨0, 0, 0, 0⟩
theorem blankP_len {s : Scn} (h : vScn s = true) : ((blankP s).length : Int) = s.w * s.h := by
  have := wh_bd (vScn_parts h).1
  rw [blankP, List.length_replicate]; omega
theorem hit_at {s : Scn} (hz : szd s.w s.h = true) {i : Nat} (hi : (i : Int) < s.w * s.h) : ∃ t, isT s.w s.h t = true ∧ hitB s t i = true := by
  have hr := szd_r hz
  have ha := acr_mul hz
  have hw : (0 : Int) < s.w := by omega
  have h1 := Int.emod_nonneg (i : Int) (show s.w ≠ 0 by omega)
  have h2 := Int.emod_lt_of_pos (i : Int) hw
  have h3 : 0 ≤ (i : Int) / s.w := Int.ediv_nonneg (by omega) (by omega)
  have h4 : (i : Int) / s.w < s.h := Int.ediv_lt_of_lt_mul hw (by rw [Int.mul_comm]; exact hi)
  generalize hc : (i : Int) % s.w = c at *
  generalize hq : (i : Int) / s.w = q at *
  have hc4 : c / 4 < acr s.w := by unfold acr; omega
  have hq4 : q / 4 < acr s.h := by unfold acr; omega
  have hA : (q / 4 * acr s.w + c / 4) % acr s.w = c / 4 := by
    rw [Int.add_comm, Int.add_mul_emod_self_right, Int.emod_eq_of_lt (by omega) hc4]
  have hB : (q / 4 * acr s.w + c / 4) / acr s.w = q / 4 := by
    rw [Int.add_comm, Int.add_mul_ediv_right _ _ (by omega), Int.ediv_eq_zero_of_lt (by omega) hc4, Int.zero_add]
  have hT : isT s.w s.h (q / 4 * acr s.w + c / 4) = true := by
    have h5 : 0 ≤ q / 4 * acr s.w := Int.mul_nonneg (by omega) (by omega)
    have h6 : (q / 4 + 1) * acr s.w ≤ acr s.h * acr s.w := Int.mul_le_mul_of_nonneg_right (by omega) (by omega)
    rw [Int.add_mul, Int.one_mul, Int.mul_comm (acr s.h)] at h6
    rw [isT, hz, decide_eq_true (by omega)]; rfl
  refine ⟨_, hT, ?_⟩
  rw [hitB, decide_eq_true_eq]
  have e : tbV s.w s.h (q / 4 * acr s.w + c / 4) = tbox s.w s.h (q / 4 * acr s.w + c / 4) := if_pos hT
  rw [e]
  unfold inStg
  simp only [tbox, hA, hB, hc, hq]
  omega
theorem tilesP_all {s : Scn} {ts : List Int} (hv : vScn s = true) (h : ∀ t, isT s.w s.h t = true → t ∈ ts) : tilesP s (blankP s) ts = drawV s := by
  have hz := (vScn_parts hv).1
  have hr := szd_r hz
  have hb := blankP_len hv
  rw [drawV, if_pos hv]
  refine List.ext_getElem? fun i => ?_
  rw [tilesP_get]
  by_cases hi : (i : Int) < s.w * s.h
  · obtain ⟨t, h1, h2⟩ := hit_at hz hi
    have ha : ts.any (hitB s · i) = true := List.any_eq_true.2 ⟨t, h t h1, h2⟩
    rw [List.getElem?_eq_getElem (by omega), Option.map_some, if_pos ha]
    have e : s.h.toNat * s.w.toNat = (s.w * s.h).toNat := by rw [← Int.toNat_mul (by omega) (by omega), Int.mul_comm]
    rw [pixAll_get _ _ _ _ (by omega) (by rw [e]; omega), Int.natCast_emod, Int.natCast_ediv, Int.toNat_of_nonneg (by omega)]
  · have e : s.h.toNat * s.w.toNat = (s.w * s.h).toNat := by rw [← Int.toNat_mul (by omega) (by omega), Int.mul_comm]
    rw [List.getElem?_eq_none (by omega), List.getElem?_eq_none (by rw [pixAll_len, e]; omega)]
    rfl
theorem rep_co' (n : Nat) : List.replicate n [C.v (.int .i64 0), C.v (.int .i64 0), C.v (.int .i64 0), C.v (.int .i64 0)] = List.map coC (List.replicate n ⟨0, 0, 0, 0⟩) := by
  rw [List.map_replicate]; rfl
def spBlF_A : Int × Int → List AV
  | (w, h) => [I w, I h]
def spBlF_pre : Int × Int → Prop
  | (w, h) => szd w h = true
def spBlF_post : Int × Int → AV → List Box → Prop
  | (w, h), r, bs => r = .agg [C.v (.int .i64 w), C.v (.int .i64 h), C.own 0 (w * h).toNat false] ∧ bs = [⟨(List.replicate (w * h).toNat (⟨0, 0, 0, 0⟩ : Colr)).map coC, 4, 66, true, false⟩]
def spBlF : VE.Spec := famSpec spBlF_A d_i_i spBlF_pre spBlF_post 0 true
theorem spBlF_q : SpQ spBlF true [] false 0 (fun a i => i = [] ∧ famPre d_i_i spBlF_A spBlF_pre a) (fun a i r b => famPost d_i_i spBlF_post a r b) := ⟨rfl, rfl, rfl, rfl, fun _ _ => rfl, fun _ _ _ _ => rfl⟩
def spBlR_A : Int × Int → List AV
  | (w, h) => [I w, I h]
def spBlR_pre : Int × Int → Prop
  | (w, h) => szd w h = true
def spBlR_post : Int × Int → AV → List Box → Prop
  | (w, h), r, bs => r = .agg (frC (⟨w, h, List.replicate (w * h).toNat ⟨0, 0, 0, 0⟩⟩)) ∧ bs = []
def spBlR : VE.Spec := famSpecS spBlR_A d_i_i spBlR_pre spBlR_post 0 false
theorem spBlR_q : SpQ spBlR false [] true 0 (fun a i => i = [] ∧ famPre d_i_i spBlR_A spBlR_pre a) (fun a i r b => famPost d_i_i spBlR_post a r b) := ⟨rfl, rfl, rfl, rfl, fun _ _ => rfl, fun _ _ _ _ => rfl⟩
def tb26 : Nat → Option VE.Spec := tabOf []
theorem tb26_ok : TabOK Tryz.prog rt0 tb26 := tabOf_nil
set_option maxHeartbeats 4000000 in
theorem sat_spec_blank_0 : Sat Tryz.prog rt0 26 (wkOut spBlR) := by
  refine fn_sat hm ttok (tab := tb26) tb26_ok Tryz.func26 (c := Tryz.f26.body.getD .skip) (by kernel_rfl) (ts := [.cell 4 31]) (by kernel_rfl) Tryz.ntmps26 (sq := fun _ => true) (by kernel_rfl) ?_
  intro args ins pk hpre0 hpk
  obtain ⟨rfl, hpre0⟩ := hpre0
  obtain ⟨⟨w, h⟩, rfl, hpre, hdec⟩ := famPre_ex hpre0
  clear hpre0 hdec
  try simp only [spBlR_pre] at hpre
  replace hpk : pk + 0 ≤ pickLimit := hpk
  refine ⟨nle rfl, ?_⟩
  have hwh := wh_bd hpre
  have hr := szd_r hpre
  simp (maxSteps := 1000000) only [go_sem, Tryz.f26, spBlR_q, spBlR_A, spBlR_pre, spBlR_post, rep_co']
  repeat' first | apply And.intro | intro _ | omega | assumption | with_reducible rfl
  all_goals (first | omega | (rfl; done))
theorem sat_spec_blank : Sat Tryz.prog rt0 26 (wkIn spBlR) := sat_in (sat_out sat_spec_blank_0)
def tb21 : Nat → Option VE.Spec := tabOf [(44, wkIn spSzd)]
theorem tb21_44 : tb21 44 = some (wkIn spSzd) := rfl
theorem tb21_ok : TabOK Tryz.prog rt0 tb21 := (tabOf_cons (by kernel_rfl) sat_impl_sized tabOf_nil)
set_option maxHeartbeats 4000000 in
theorem sat_impl_BlankFrame_0 : Sat Tryz.prog rt0 21 (wkOut spBlF) := by
  refine fn_sat hm ttok (tab := tb21) tb21_ok Tryz.func21 (c := Tryz.f21.body.getD .skip) (by kernel_rfl) (ts := [.cell 4 31]) (by kernel_rfl) Tryz.ntmps21 (sq := fun _ => true) (by kernel_rfl) ?_
  intro args ins pk hpre0 hpk
  obtain ⟨rfl, hpre0⟩ := hpre0
  obtain ⟨⟨w, h⟩, rfl, hpre, hdec⟩ := famPre_ex hpre0
  clear hpre0 hdec
  try simp only [spBlF_pre] at hpre
  replace hpk : pk + 0 ≤ pickLimit := hpk
  refine ⟨nle rfl, ?_⟩
  have hwh := wh_bd hpre
  have hr := szd_r hpre
  simp (maxSteps := 1000000) only [go_sem, Tryz.f21, tb21_44, spBlF_q, spBlF_A, spBlF_pre, spBlF_post, spSzd_q, spSzd_A, spSzd_pre, spSzd_post, rep_co']
  repeat' first | apply And.intro | intro _ | omega | assumption | with_reducible rfl
  all_goals (first | omega | (rfl; done) | (simp_all; done))
theorem sat_impl_BlankFrame : Sat Tryz.prog rt0 21 (wkIn spBlF) := sat_in (sat_out sat_impl_BlankFrame_0)
end Go.Proofs.YtcejoknapbhloaaGreat
