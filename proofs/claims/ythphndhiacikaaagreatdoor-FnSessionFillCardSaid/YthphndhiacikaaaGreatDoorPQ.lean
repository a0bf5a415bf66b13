/- Contracts of functions of the program vectorraster, each proved for all states that fit its description. No conditions. -/
import Derived.Test.YthphndhiacikaaaGreatDoorPA
import Derived.Test.YthphndhiacikaaaGreatDoorKS
import Derived.Test.YthphndhiacikaaaGreatDoorPO
import Derived.Test.YthphndhiacikaaaGreatDoorPE
import Derived.Test.YthphndhiacikaaaGreatDoorPC
import Derived.Test.YthphndhiacikaaaGreatDoorPF
import Derived.Test.YthphndhiacikaaaGreatDoorPD
set_option linter.unusedSimpArgs false
set_option linter.unusedVariables false
set_option maxRecDepth 100000
namespace Go.Proofs.YthphndhiacikaaaGreatDoor
open Go Go.VE
def vCol (c : Colr) : Bool := decide (0 ≤ c.a ∧ c.a ≤ 255) && decide (0 ≤ c.r ∧ c.r ≤ c.a) && decide (0 ≤ c.g ∧ c.g ≤ c.a) && decide (0 ≤ c.b ∧ c.b ≤ c.a)
def vStp : Int → List Stp → Bool
  | _, [] => true
  | p, s :: r => decide (p + 1 ≤ s.w ∧ s.w ≤ 256) && vCol s.c && vStp s.w r
def vStops (l : List Stp) : Bool := vStp (-1) l && decide (1 ≤ l.length ∧ l.length ≤ 4)
def lastW (l : List Stp) (i : Int) : Int := if i = 0 then -1 else ((l[(i - 1).toNat]?).map (·.w)).getD (-1)
theorem lastW_prev {l : List Stp} {i : Int} {s : Stp} (hi : ¬ i = 0) (h : l[(i - 1).toNat]? = some s) : lastW l i = s.w := by
  rw [lastW, if_neg hi, h]; rfl
theorem lastW_next {l : List Stp} {i : Int} {s : Stp} (h0 : 0 ≤ i) (h : l[i.toNat]? = some s) : lastW l (i + 1) = s.w := lastW_prev (by omega) (by rwa [show i + 1 - 1 = i by omega])
theorem vStp_step {l : List Stp} {i p : Int} {s : Stp} (h0 : 0 ≤ i) (h : l[i.toNat]? = some s) : vStp p (l.drop i.toNat) = (decide (p + 1 ≤ s.w ∧ s.w ≤ 256) && vCol s.c && vStp s.w (l.drop (i + 1).toNat)) := by
  rw [dropN h h0]; rfl
theorem vStops_bad {l : List Stp} (h : vStp (-1) l = false) : vStops l = false := by rw [vStops, h]; rfl
theorem vStp_end {l : List Stp} {i p : Int} (h : ¬ i < (l.length : Int)) : vStp p (l.drop i.toNat) = true := by
  rw [List.drop_eq_nil_of_le (by omega)]; rfl
theorem vStops_end {l : List Stp} (h : true = vStp (-1) l) : vStops l = decide (1 ≤ (l.length : Int) ∧ (l.length : Int) ≤ 4) := by
  rw [vStops, ← h, Bool.true_and, decide_eq_decide]; omega
def vPnt (p : Pnt) : Bool := vStops p.ss && vPt p.f && vPt p.t
def vFil (f : Fil) : Bool := vPath f.p && vRings (ringsOf f.p) && isRl f.rl && vPnt f.pn
def vScn (s : Scn) : Bool := szd s.w s.h && decide (s.fs.length ≤ 4) && s.fs.all vFil
structure okF (f : Fil) : Prop where
  p : f.p.length ≤ 1000
  n : nPts f.p ≤ 1000
  s : f.pn.ss.length ≤ 1000
structure okFs (l : List Fil) : Prop where
  len : l.length ≤ 1000
  all : ∀ f ∈ l, okF f
theorem okFs_at {l : List Fil} {i : Int} {f : Fil} (h : okFs l) (hf : l[i.toNat]? = some f) : okF f := h.all f (List.mem_of_getElem? hf)
theorem okFs_nil : okFs [] := ⟨by simp, fun f hf => by cases hf⟩
theorem okFs_snoc {l : List Fil} {f : Fil} (h : okFs l) (hl : l.length ≤ 900) (hf : okF f) : okFs (l ++ [f]) := ⟨by simp; omega, fun g hg => (List.mem_append.1 hg).elim (h.all g) fun hg => by rw [List.mem_singleton] at hg; exact hg ▸ hf⟩
section
def spAll_A : (List Int) × Int × Int → List AV
  | (l, lo, hi) => [.c (.sl false (l.map intC)), I lo, I hi]
def spAll_pre : (List Int) × Int × Int → Prop
  | (l, lo, hi) => l.length ≤ 1000000
def spAll_post : (List Int) × Int × Int → AV → List Box → Prop
  | (l, lo, hi), r, bs => r = B (l.all fun n => decide (lo ≤ n ∧ n ≤ hi)) ∧ bs = []
def spAll : VE.Spec := famSpec spAll_A d_li_i_i spAll_pre spAll_post 0 true
theorem spAll_q : SpQ spAll true [] false 0 (fun a i => i = [] ∧ famPre d_li_i_i spAll_A spAll_pre a) (fun a i r b => famPost d_li_i_i spAll_post a r b) := ⟨rfl, rfl, rfl, rfl, fun _ _ => rfl, fun _ _ _ _ => rfl⟩
def tb172 : Nat → Option VE.Spec := tabOf [(91, wkIn spIn)]
theorem tb172_91 : tb172 91 = some (wkIn spIn) := rfl
theorem tb172_ok : TabOK Tryz.prog rt0 tb172 := (tabOf_cons (by kernel_rfl) sat_spec_inRange tabOf_nil)
section
attribute [local go_sem] Tryz.f172 tb172_91 spAll_q spAll_A spAll_pre spAll_post spIn_q spIn_A spIn_pre spIn_post
set_option maxHeartbeats 4000000 in
theorem sat_spec_allIn_0 : Sat Tryz.prog rt0 172 (wkOut spAll) := by
  refine fn_sat hm ttok (tab := tb172) tb172_ok Tryz.func172 (c := Tryz.f172.body.getD .skip) (by kernel_rfl) (ts := [.tmp 6]) (by kernel_rfl) Tryz.ntmps172 (sq := fun _ => true) (by kernel_rfl) ?_
  intro args ins pk hpre0 hpk
  obtain ⟨rfl, hpre0⟩ := hpre0
  obtain ⟨⟨l, lo, hi⟩, rfl, hpre, hdec⟩ := famPre_ex hpre0
  clear hpre0 hdec
  try simp only [spAll_pre] at hpre
  replace hpk : pk + 0 ≤ pickLimit := hpk
  refine ⟨nle rfl, ?_⟩
  simp (maxSteps := 1000000) only [go_sem]
  repeat' first | apply And.intro | intro _ | omega | assumption | with_reducible rfl
  refine loopS (α := Int) false [3, 4, 5, 6, 7, 8, 9, 10, 11, 12, 13, 14, 15, 16, 17, 18, 19, 20, 21] (fun σ => []) (fun σ x => [(7, I x)]) (fun σ x => []) (fun i => 0) (fun σ => gI (σ.get 7)) (fun σ τ => []) (fun i => 0 ≤ i ∧ i ≤ l.length ∧ ((l.take i.toNat).all fun n => decide (lo ≤ n ∧ n ≤ hi)) = true) (fun i => (l.length - i).toNat) ⟨by (simp (maxSteps := 1000000) only [go_sem]; (repeat' first | apply And.intro | intro _ | omega | assumption | with_reducible rfl)), ?_⟩
  rintro i hinv
  try dsimp only at hinv
  simp (maxSteps := 1000000) only [go_sem]
  repeat' first | apply And.intro | intro _ | omega | assumption | with_reducible rfl
  all_goals (first | (grind [→ takeN, takeA, all_bad]; done))
end
theorem sat_spec_allIn : Sat Tryz.prog rt0 172 (wkIn spAll) := sat_in (sat_out sat_spec_allIn_0)
def spVCol_A : Colr → List AV
  | c => [.agg (coC c)]
def spVCol_pre : Colr → Prop
  | c => True
def spVCol_post : Colr → AV → List Box → Prop
  | c, r, bs => r = B (vCol c) ∧ bs = []
def spVCol : VE.Spec := famSpec spVCol_A d_co spVCol_pre spVCol_post 0 true
theorem spVCol_q : SpQ spVCol true [] false 0 (fun a i => i = [] ∧ famPre d_co spVCol_A spVCol_pre a) (fun a i r b => famPost d_co spVCol_post a r b) := ⟨rfl, rfl, rfl, rfl, fun _ _ => rfl, fun _ _ _ _ => rfl⟩
def tb135 : Nat → Option VE.Spec := tabOf [(38, wkIn spIn)]
theorem tb135_38 : tb135 38 = some (wkIn spIn) := rfl
theorem tb135_ok : TabOK Tryz.prog rt0 tb135 := (tabOf_cons (by kernel_rfl) sat_impl_in tabOf_nil)
set_option maxHeartbeats 4000000 in
theorem sat_impl_ValidColor_0 : Sat Tryz.prog rt0 135 (wkOut spVCol) := by
  refine fn_sat hm ttok (tab := tb135) tb135_ok Tryz.func135 (c := Tryz.f135.body.getD .skip) (by kernel_rfl) (ts := [.tmp 2]) (by kernel_rfl) Tryz.ntmps135 (sq := fun _ => true) (by kernel_rfl) ?_
  intro args ins pk hpre0 hpk
  obtain ⟨rfl, hpre0⟩ := hpre0
  obtain ⟨c, rfl, hpre, hdec⟩ := famPre_ex hpre0
  clear hpre0 hdec
  try simp only [spVCol_pre] at hpre
  replace hpk : pk + 0 ≤ pickLimit := hpk
  refine ⟨nle rfl, ?_⟩
  simp (maxSteps := 1000000) only [go_sem, Tryz.f135, tb135_38, spVCol_q, spVCol_A, spVCol_pre, spVCol_post, spIn_q, spIn_A, spIn_pre, spIn_post]
  repeat' first | apply And.intro | intro _ | omega | assumption | with_reducible rfl
  all_goals (first | (simp [vCol, *]; done) | ((simp only [vCol]; grind); done) | (grind [vCol]; done) | (simp_all [vCol]; done))
theorem sat_impl_ValidColor : Sat Tryz.prog rt0 135 (wkIn spVCol) := sat_in (sat_out sat_impl_ValidColor_0)
def tb195 : Nat → Option VE.Spec := tabOf [(91, wkIn spIn), (172, wkIn spAll)]
theorem tb195_91 : tb195 91 = some (wkIn spIn) := rfl
theorem tb195_172 : tb195 172 = some (wkIn spAll) := rfl
theorem tb195_ok : TabOK Tryz.prog rt0 tb195 := (tabOf_cons (by kernel_rfl) sat_spec_inRange (tabOf_cons (by kernel_rfl) sat_spec_allIn tabOf_nil))
set_option maxHeartbeats 4000000 in
theorem sat_spec_validColor_0 : Sat Tryz.prog rt0 195 (wkOut spVCol) := by
  refine fn_sat hm ttok (tab := tb195) tb195_ok Tryz.func195 (c := Tryz.f195.body.getD .skip) (by kernel_rfl) (ts := [.tmp 2]) (by kernel_rfl) Tryz.ntmps195 (sq := fun _ => true) (by kernel_rfl) ?_
  intro args ins pk hpre0 hpk
  obtain ⟨rfl, hpre0⟩ := hpre0
  obtain ⟨c, rfl, hpre, hdec⟩ := famPre_ex hpre0
  clear hpre0 hdec
  try simp only [spVCol_pre] at hpre
  replace hpk : pk + 0 ≤ pickLimit := hpk
  refine ⟨nle rfl, ?_⟩
  simp (maxSteps := 1000000) only [go_sem, Tryz.f195, tb195_91, tb195_172, spVCol_q, spVCol_A, spVCol_pre, spVCol_post, spIn_q, spIn_A, spIn_pre, spIn_post, spAll_q, spAll_A, spAll_pre, spAll_post]
  repeat' first | apply And.intro | intro _ | omega | assumption | with_reducible rfl
  all_goals (first | (simp [vCol, *]; done) | ((simp only [vCol]; grind); done) | (grind [vCol]; done) | (simp_all [vCol]; done))
theorem sat_spec_validColor : Sat Tryz.prog rt0 195 (wkIn spVCol) := sat_in (sat_out sat_spec_validColor_0)
end
section
def spVSt_A : (List Stp) → List AV
  | l => [.c (.sl false (l.map stC))]
def spVSt_pre : (List Stp) → Prop
  | l => l.length ≤ 1000000
def spVSt_post : (List Stp) → AV → List Box → Prop
  | l, r, bs => r = B (vStops l) ∧ bs = []
def spVSt : VE.Spec := famSpec spVSt_A d_lst spVSt_pre spVSt_post 0 true
theorem spVSt_q : SpQ spVSt true [] false 0 (fun a i => i = [] ∧ famPre d_lst spVSt_A spVSt_pre a) (fun a i r b => famPost d_lst spVSt_post a r b) := ⟨rfl, rfl, rfl, rfl, fun _ _ => rfl, fun _ _ _ _ => rfl⟩
def tb182 : Nat → Option VE.Spec := tabOf [(38, wkIn spIn), (135, wkIn spVCol)]
theorem tb182_38 : tb182 38 = some (wkIn spIn) := rfl
theorem tb182_135 : tb182 135 = some (wkIn spVCol) := rfl
theorem tb182_ok : TabOK Tryz.prog rt0 tb182 := (tabOf_cons (by kernel_rfl) sat_impl_in (tabOf_cons (by kernel_rfl) sat_impl_ValidColor tabOf_nil))
section
attribute [local go_sem] Tryz.f182 tb182_38 tb182_135 spVSt_q spVSt_A spVSt_pre spVSt_post spIn_q spIn_A spIn_pre spIn_post spVCol_q spVCol_A spVCol_pre spVCol_post
set_option maxHeartbeats 4000000 in
theorem sat_impl_ValidStops_0 : Sat Tryz.prog rt0 182 (wkOut spVSt) := by
  refine fn_sat hm ttok (tab := tb182) tb182_ok Tryz.func182 (c := Tryz.f182.body.getD .skip) (by kernel_rfl) (ts := [.tmp 2]) (by kernel_rfl) Tryz.ntmps182 (sq := fun _ => true) (by kernel_rfl) ?_
  intro args ins pk hpre0 hpk
  obtain ⟨rfl, hpre0⟩ := hpre0
  obtain ⟨l, rfl, hpre, hdec⟩ := famPre_ex hpre0
  clear hpre0 hdec
  try simp only [spVSt_pre] at hpre
  replace hpk : pk + 0 ≤ pickLimit := hpk
  refine ⟨nle rfl, ?_⟩
  simp (maxSteps := 1000000) only [go_sem]
  repeat' first | apply And.intro | intro _ | omega | assumption | with_reducible rfl
  any_goals
    refine loopS (α := Int × Int) false [1, 2, 3, 4, 5, 8, 9, 10, 11, 12, 13, 14, 15, 16, 17, 18, 19, 20, 21, 22, 23, 24, 25, 26] (fun σ => []) (fun σ x => [(3, I x.1), (8, I x.2)]) (fun σ x => []) (fun (p, i) => 0) (fun σ => (gI (σ.get 3), gI (σ.get 8))) (fun σ τ => []) (fun (p, i) => 0 ≤ i ∧ i ≤ l.length ∧ (-1 ≤ p ∧ p ≤ 256) ∧ vStp p (l.drop i.toNat) = vStp (-1) l) (fun (p, i) => (l.length - i).toNat) ⟨by (simp (maxSteps := 1000000) only [go_sem]; (repeat' first | apply And.intro | intro _ | omega | assumption | with_reducible rfl); all_goals (first | rfl)), ?_⟩
    rintro ⟨p, i⟩ hinv
    try dsimp only at hinv
    rcases elemAt l i (by omega) with ⟨hlt, q, hk⟩ | hlt
    all_goals (first | ((have hlt2 := of_eq_true hlt); (have hS := vStp_step (p := p) hinv.1 hk); all_goals simp (maxSteps := 1000000) only [go_sem, hlt, hk]) | (have hlt2 := of_eq_false hlt; simp (maxSteps := 1000000) only [go_sem, hlt]))
    all_goals
      repeat' first | apply And.intro | intro _ | omega | assumption | with_reducible rfl
  
  all_goals (first | ((refine (vStops_bad ?_).symm; rw [← hinv.2.2.2, hS]; simp [*]); done) | ((rw [← hinv.2.2.2, hS]; simp [*]); done) | ((rw [vStops_end (by rw [← hinv.2.2.2, vStp_end (by omega)])]); done) | (grind; done))
end
theorem sat_impl_ValidStops : Sat Tryz.prog rt0 182 (wkIn spVSt) := sat_in (sat_out sat_impl_ValidStops_0)
theorem st_bad {l : List Stp} {i : Int} {q : Stp} (h : vStp (lastW l i) (l.drop i.toNat) = vStp (-1) l) (hS : vStp (lastW l i) (l.drop i.toNat) = (decide (lastW l i + 1 ≤ q.w ∧ q.w ≤ 256) && vCol q.c && vStp q.w (l.drop (i + 1).toNat))) (hb : ¬ (lastW l i + 1 ≤ q.w ∧ q.w ≤ 256)) : false = vStops l := by
  refine (vStops_bad ?_).symm
  rw [← h, hS, decide_eq_false hb]; rfl
theorem st_bad2 {l : List Stp} {i : Int} {q : Stp} (h : vStp (lastW l i) (l.drop i.toNat) = vStp (-1) l) (hS : vStp (lastW l i) (l.drop i.toNat) = (decide (lastW l i + 1 ≤ q.w ∧ q.w ≤ 256) && vCol q.c && vStp q.w (l.drop (i + 1).toNat))) (hb : vCol q.c = false) : false = vStops l := by
  refine (vStops_bad ?_).symm
  rw [← h, hS, hb, Bool.and_false]; rfl
theorem st_next {l : List Stp} {i : Int} {q : Stp} (h : vStp (lastW l i) (l.drop i.toNat) = vStp (-1) l) (hS : vStp (lastW l i) (l.drop i.toNat) = (decide (lastW l i + 1 ≤ q.w ∧ q.w ≤ 256) && vCol q.c && vStp q.w (l.drop (i + 1).toNat))) (hN : lastW l (i + 1) = q.w) (hb : vCol q.c = true) (hw : lastW l i + 1 ≤ q.w ∧ q.w ≤ 256) : vStp (lastW l (i + 1)) (l.drop (i + 1).toNat) = vStp (-1) l := by
  rw [← h, hS, hN, hb, decide_eq_true hw]; rfl
def tb187 : Nat → Option VE.Spec := tabOf [(91, wkIn spIn), (195, wkIn spVCol)]
theorem tb187_91 : tb187 91 = some (wkIn spIn) := rfl
theorem tb187_195 : tb187 195 = some (wkIn spVCol) := rfl
theorem tb187_ok : TabOK Tryz.prog rt0 tb187 := (tabOf_cons (by kernel_rfl) sat_spec_inRange (tabOf_cons (by kernel_rfl) sat_spec_validColor tabOf_nil))
section
attribute [local go_sem] Tryz.f187 tb187_91 tb187_195 spVSt_q spVSt_A spVSt_pre spVSt_post spIn_q spIn_A spIn_pre spIn_post spVCol_q spVCol_A spVCol_pre spVCol_post
set_option maxHeartbeats 4000000 in
theorem sat_spec_validStops_0 : Sat Tryz.prog rt0 187 (wkOut spVSt) := by
  refine fn_sat hm ttok (tab := tb187) tb187_ok Tryz.func187 (c := Tryz.f187.body.getD .skip) (by kernel_rfl) (ts := [.tmp 2]) (by kernel_rfl) Tryz.ntmps187 (sq := fun _ => true) (by kernel_rfl) ?_
  intro args ins pk hpre0 hpk
  obtain ⟨rfl, hpre0⟩ := hpre0
  obtain ⟨l, rfl, hpre, hdec⟩ := famPre_ex hpre0
  clear hpre0 hdec
  try simp only [spVSt_pre] at hpre
  replace hpk : pk + 0 ≤ pickLimit := hpk
  refine ⟨nle rfl, ?_⟩
  simp (maxSteps := 1000000) only [go_sem]
  repeat' first | apply And.intro | intro _ | omega | assumption | with_reducible rfl
  refine loopS (α := Int) false [1, 2, 3, 4, 5, 6, 7, 8, 9, 10, 11, 12, 13, 14, 15, 16, 17, 18, 19, 20, 21, 22, 23, 24, 25, 26, 27, 28, 29, 30, 31, 32, 33, 34, 35, 36, 37, 38, 39, 40, 41, 42, 43] (fun σ => []) (fun σ x => [(3, I x)]) (fun σ x => []) (fun i => 0) (fun σ => gI (σ.get 3)) (fun σ τ => []) (fun i => 0 ≤ i ∧ i ≤ l.length ∧ -1 ≤ lastW l i ∧ vStp (lastW l i) (l.drop i.toNat) = vStp (-1) l) (fun i => (l.length - i).toNat) ⟨by (simp (maxSteps := 1000000) only [go_sem]; (repeat' first | apply And.intro | intro _ | omega | assumption | with_reducible rfl); all_goals (first | rfl | (simp [lastW]))), ?_⟩
  rintro i hinv
  try dsimp only at hinv
  rcases elemAt l i (by omega) with ⟨hlt, q, hk⟩ | hlt
  all_goals (first | ((have hlt2 := of_eq_true hlt); (have hS := vStp_step (p := lastW l i) hinv.1 hk); (have hN := lastW_next hinv.1 hk); (have h00 : i = 0 → lastW l i = -1 := fun h => by rw [h]; rfl); all_goals simp (maxSteps := 1000000) only [go_sem, hlt, hk]) | (have hlt2 := of_eq_false hlt; simp (maxSteps := 1000000) only [go_sem, hlt]))
  all_goals
    repeat' first | apply And.intro | intro _ | omega | assumption | with_reducible rfl
  all_goals (first | ((have e := lastW_prev (l := l) (i := i) (by omega) ‹l[(i - 1).toNat]? = some _›; refine st_bad hinv.2.2.2 hS ?_; omega); done) | ((have e := lastW_prev (l := l) (i := i) (by omega) ‹l[(i - 1).toNat]? = some _›; refine st_next hinv.2.2.2 hS hN ‹vCol q.c = true› ?_; omega); done) | ((have e := h00 (by omega); refine st_next hinv.2.2.2 hS hN ‹vCol q.c = true› ?_; omega); done) | (exact st_bad2 hinv.2.2.2 hS ‹_›) | ((refine st_bad hinv.2.2.2 hS ?_; omega); done) | (exact (vStops_end ((vStp_end hlt2).symm.trans hinv.2.2.2)).symm))
end
theorem sat_spec_validStops : Sat Tryz.prog rt0 187 (wkIn spVSt) := sat_in (sat_out sat_spec_validStops_0)
end
def spVPnt_A : Pnt → List AV
  | p => [.agg (pnC p)]
def spVPnt_pre : Pnt → Prop
  | p => p.ss.length ≤ 1000000
def spVPnt_post : Pnt → AV → List Box → Prop
  | p, r, bs => r = B (vPnt p) ∧ bs = []
def spVPnt : VE.Spec := famSpec spVPnt_A d_pn spVPnt_pre spVPnt_post 0 true
theorem spVPnt_q : SpQ spVPnt true [] false 0 (fun a i => i = [] ∧ famPre d_pn spVPnt_A spVPnt_pre a) (fun a i r b => famPost d_pn spVPnt_post a r b) := ⟨rfl, rfl, rfl, rfl, fun _ _ => rfl, fun _ _ _ _ => rfl⟩
def tb165 : Nat → Option VE.Spec := tabOf [(182, wkIn spVSt), (64, wkIn spVPt)]
theorem tb165_182 : tb165 182 = some (wkIn spVSt) := rfl
theorem tb165_64 : tb165 64 = some (wkIn spVPt) := rfl
theorem tb165_ok : TabOK Tryz.prog rt0 tb165 := (tabOf_cons (by kernel_rfl) sat_impl_ValidStops (tabOf_cons (by kernel_rfl) sat_impl_Point_valid tabOf_nil))
set_option maxHeartbeats 4000000 in
theorem sat_impl_Paint_valid_0 : Sat Tryz.prog rt0 165 (wkOut spVPnt) := by
  refine fn_sat hm ttok (tab := tb165) tb165_ok Tryz.func165 (c := Tryz.f165.body.getD .skip) (by kernel_rfl) (ts := [.tmp 2]) (by kernel_rfl) Tryz.ntmps165 (sq := fun _ => true) (by kernel_rfl) ?_
  intro args ins pk hpre0 hpk
  obtain ⟨rfl, hpre0⟩ := hpre0
  obtain ⟨p, rfl, hpre, hdec⟩ := famPre_ex hpre0
  clear hpre0 hdec
  try simp only [spVPnt_pre] at hpre
  replace hpk : pk + 0 ≤ pickLimit := hpk
  refine ⟨nle rfl, ?_⟩
  simp (maxSteps := 1000000) only [go_sem, Tryz.f165, tb165_182, tb165_64, spVPnt_q, spVPnt_A, spVPnt_pre, spVPnt_post, spVSt_q, spVSt_A, spVSt_pre, spVSt_post, spVPt_q, spVPt_A, spVPt_pre, spVPt_post]
  repeat' first | apply And.intro | intro _ | omega | assumption | with_reducible rfl
  all_goals (first | (simp [vPnt, *]; done) | (simp_all [vPnt]; done) | (grind [vPnt]; done))
theorem sat_impl_Paint_valid : Sat Tryz.prog rt0 165 (wkIn spVPnt) := sat_in (sat_out sat_impl_Paint_valid_0)
def tb171 : Nat → Option VE.Spec := tabOf [(187, wkIn spVSt), (92, wkIn spVPt)]
theorem tb171_187 : tb171 187 = some (wkIn spVSt) := rfl
theorem tb171_92 : tb171 92 = some (wkIn spVPt) := rfl
theorem tb171_ok : TabOK Tryz.prog rt0 tb171 := (tabOf_cons (by kernel_rfl) sat_spec_validStops (tabOf_cons (by kernel_rfl) sat_spec_validPoint tabOf_nil))
set_option maxHeartbeats 4000000 in
theorem sat_spec_validPaint_0 : Sat Tryz.prog rt0 171 (wkOut spVPnt) := by
  refine fn_sat hm ttok (tab := tb171) tb171_ok Tryz.func171 (c := Tryz.f171.body.getD .skip) (by kernel_rfl) (ts := [.tmp 2]) (by kernel_rfl) Tryz.ntmps171 (sq := fun _ => true) (by kernel_rfl) ?_
  intro args ins pk hpre0 hpk
  obtain ⟨rfl, hpre0⟩ := hpre0
  obtain ⟨p, rfl, hpre, hdec⟩ := famPre_ex hpre0
  clear hpre0 hdec
  try simp only [spVPnt_pre] at hpre
  replace hpk : pk + 0 ≤ pickLimit := hpk
  refine ⟨nle rfl, ?_⟩
  simp (maxSteps := 1000000) only [go_sem, Tryz.f171, tb171_187, tb171_92, spVPnt_q, spVPnt_A, spVPnt_pre, spVPnt_post, spVSt_q, spVSt_A, spVSt_pre, spVSt_post, spVPt_q, spVPt_A, spVPt_pre, spVPt_post]
  repeat' first | apply And.intro | intro _ | omega | assumption | with_reducible rfl
  all_goals (first | (simp [vPnt, *]; done) | (simp_all [vPnt]; done) | (grind [vPnt]; done))
theorem sat_spec_validPaint : Sat Tryz.prog rt0 171 (wkIn spVPnt) := sat_in (sat_out sat_spec_validPaint_0)
def spVFil_A : Fil → List AV
  | f => [.agg (flC f)]
def spVFil_pre : Fil → Prop
  | f => okF f
def spVFil_post : Fil → AV → List Box → Prop
  | f, r, bs => r = B (vFil f) ∧ bs = []
def spVFil : VE.Spec := famSpec spVFil_A d_fl spVFil_pre spVFil_post 0 true
theorem spVFil_q : SpQ spVFil true [] false 0 (fun a i => i = [] ∧ famPre d_fl spVFil_A spVFil_pre a) (fun a i r b => famPost d_fl spVFil_post a r b) := ⟨rfl, rfl, rfl, rfl, fun _ _ => rfl, fun _ _ _ _ => rfl⟩
def tb134 : Nat → Option VE.Spec := tabOf [(13, wkIn spVPath), (106, wkIn spRings), (163, wkIn spVRings), (164, wkIn spRl), (165, wkIn spVPnt)]
theorem tb134_13 : tb134 13 = some (wkIn spVPath) := rfl
theorem tb134_106 : tb134 106 = some (wkIn spRings) := rfl
theorem tb134_163 : tb134 163 = some (wkIn spVRings) := rfl
theorem tb134_164 : tb134 164 = some (wkIn spRl) := rfl
theorem tb134_165 : tb134 165 = some (wkIn spVPnt) := rfl
theorem tb134_ok : TabOK Tryz.prog rt0 tb134 := (tabOf_cons (by kernel_rfl) sat_impl_ValidPath (tabOf_cons (by kernel_rfl) sat_impl_rings (tabOf_cons (by kernel_rfl) sat_impl_ValidRings (tabOf_cons (by kernel_rfl) sat_impl_isRule (tabOf_cons (by kernel_rfl) sat_impl_Paint_valid tabOf_nil)))))
set_option maxHeartbeats 4000000 in
theorem sat_impl_Fill_valid_0 : Sat Tryz.prog rt0 134 (wkOut spVFil) := by
  refine fn_sat hm ttok (tab := tb134) tb134_ok Tryz.func134 (c := Tryz.f134.body.getD .skip) (by kernel_rfl) (ts := [.tmp 2]) (by kernel_rfl) Tryz.ntmps134 (sq := fun _ => true) (by kernel_rfl) ?_
  intro args ins pk hpre0 hpk
  obtain ⟨rfl, hpre0⟩ := hpre0
  obtain ⟨f, rfl, hpre, hdec⟩ := famPre_ex hpre0
  clear hpre0 hdec
  try simp only [spVFil_pre] at hpre
  replace hpk : pk + 0 ≤ pickLimit := hpk
  refine ⟨nle rfl, ?_⟩
  simp (maxSteps := 1000000) only [go_sem, Tryz.f134, tb134_13, tb134_106, tb134_163, tb134_164, tb134_165, spVFil_q, spVFil_A, spVFil_pre, spVFil_post, spVPath_q, spVPath_A, spVPath_pre, spVPath_post, spRings_q, spRings_A, spRings_pre, spRings_post, spVRings_q, spVRings_A, spVRings_pre, spVRings_post, spRl_q, spRl_A, spRl_pre, spRl_post, spVPnt_q, spVPnt_A, spVPnt_pre, spVPnt_post]
  repeat' first | apply And.intro | intro _ | omega | assumption | with_reducible rfl
  all_goals (first | ((have h1 := hpre.p; have h2 := hpre.n; have h3 := hpre.s; omega); done) | (exact (rings_tot2 ‹vPath f.p = true›).1) | (exact (rings_tot2 ‹vPath f.p = true›).2) | (simp [vFil, *]; done) | ((simp only [vFil, *]; simp); done) | ((simp only [vFil, isRl, *]; simp; omega); done) | (simp_all [vFil]; done) | (grind [vFil, isRl]; done))
theorem sat_impl_Fill_valid : Sat Tryz.prog rt0 134 (wkIn spVFil) := sat_in (sat_out sat_impl_Fill_valid_0)
def tb148 : Nat → Option VE.Spec := tabOf [(33, wkIn spVPath), (170, wkIn spRings), (169, wkIn spVRings), (91, wkIn spIn), (171, wkIn spVPnt)]
theorem tb148_33 : tb148 33 = some (wkIn spVPath) := rfl
theorem tb148_170 : tb148 170 = some (wkIn spRings) := rfl
theorem tb148_169 : tb148 169 = some (wkIn spVRings) := rfl
theorem tb148_91 : tb148 91 = some (wkIn spIn) := rfl
theorem tb148_171 : tb148 171 = some (wkIn spVPnt) := rfl
theorem tb148_ok : TabOK Tryz.prog rt0 tb148 := (tabOf_cons (by kernel_rfl) sat_spec_validPath (tabOf_cons (by kernel_rfl) sat_spec_rings (tabOf_cons (by kernel_rfl) sat_spec_validRings (tabOf_cons (by kernel_rfl) sat_spec_inRange (tabOf_cons (by kernel_rfl) sat_spec_validPaint tabOf_nil)))))
set_option maxHeartbeats 4000000 in
theorem sat_spec_validFill_0 : Sat Tryz.prog rt0 148 (wkOut spVFil) := by
  refine fn_sat hm ttok (tab := tb148) tb148_ok Tryz.func148 (c := Tryz.f148.body.getD .skip) (by kernel_rfl) (ts := [.tmp 2]) (by kernel_rfl) Tryz.ntmps148 (sq := fun _ => true) (by kernel_rfl) ?_
  intro args ins pk hpre0 hpk
  obtain ⟨rfl, hpre0⟩ := hpre0
  obtain ⟨f, rfl, hpre, hdec⟩ := famPre_ex hpre0
  clear hpre0 hdec
  try simp only [spVFil_pre] at hpre
  replace hpk : pk + 0 ≤ pickLimit := hpk
  refine ⟨nle rfl, ?_⟩
  simp (maxSteps := 1000000) only [go_sem, Tryz.f148, tb148_33, tb148_170, tb148_169, tb148_91, tb148_171, spVFil_q, spVFil_A, spVFil_pre, spVFil_post, spVPath_q, spVPath_A, spVPath_pre, spVPath_post, spRings_q, spRings_A, spRings_pre, spRings_post, spVRings_q, spVRings_A, spVRings_pre, spVRings_post, spIn_q, spIn_A, spIn_pre, spIn_post, spVPnt_q, spVPnt_A, spVPnt_pre, spVPnt_post]
  repeat' first | apply And.intro | intro _ | omega | assumption | with_reducible rfl
  all_goals (first | ((have h1 := hpre.p; have h2 := hpre.n; have h3 := hpre.s; omega); done) | (exact (rings_tot2 ‹vPath f.p = true›).1) | (exact (rings_tot2 ‹vPath f.p = true›).2) | (simp [vFil, *]; done) | ((simp only [vFil, *]; simp); done) | ((simp only [vFil, isRl, *]; simp; omega); done) | (simp_all [vFil]; done) | (grind [vFil, isRl]; done))
theorem sat_spec_validFill : Sat Tryz.prog rt0 148 (wkIn spVFil) := sat_in (sat_out sat_spec_validFill_0)
def spNVFil_A : Fil → List AV
  | f => [.agg (flC f)]
def spNVFil_pre : Fil → Prop
  | f => okF f
def spNVFil_post : Fil → AV → List Box → Prop
  | f, r, bs => r = B (!vFil f) ∧ bs = []
def spNVFil : VE.Spec := famSpec spNVFil_A d_fl spNVFil_pre spNVFil_post 0 true
theorem spNVFil_q : SpQ spNVFil true [] false 0 (fun a i => i = [] ∧ famPre d_fl spNVFil_A spNVFil_pre a) (fun a i r b => famPost d_fl spNVFil_post a r b) := ⟨rfl, rfl, rfl, rfl, fun _ _ => rfl, fun _ _ _ _ => rfl⟩
def tb133 : Nat → Option VE.Spec := tabOf [(134, wkIn spVFil)]
theorem tb133_134 : tb133 134 = some (wkIn spVFil) := rfl
theorem tb133_ok : TabOK Tryz.prog rt0 tb133 := (tabOf_cons (by kernel_rfl) sat_impl_Fill_valid tabOf_nil)
set_option maxHeartbeats 4000000 in
theorem sat_impl_ValidScene_1_0 : Sat Tryz.prog rt0 133 (wkOut spNVFil) := by
  refine fn_sat hm ttok (tab := tb133) tb133_ok Tryz.func133 (c := Tryz.f133.body.getD .skip) (by kernel_rfl) (ts := [.tmp 2]) (by kernel_rfl) Tryz.ntmps133 (sq := fun _ => true) (by kernel_rfl) ?_
  intro args ins pk hpre0 hpk
  obtain ⟨rfl, hpre0⟩ := hpre0
  obtain ⟨f, rfl, hpre, hdec⟩ := famPre_ex hpre0
  clear hpre0 hdec
  try simp only [spNVFil_pre] at hpre
  replace hpk : pk + 0 ≤ pickLimit := hpk
  refine ⟨nle rfl, ?_⟩
  simp (maxSteps := 1000000) only [go_sem, Tryz.f133, tb133_134, spNVFil_q, spNVFil_A, spNVFil_pre, spNVFil_post, spVFil_q, spVFil_A, spVFil_pre, spVFil_post]
  repeat' first | apply And.intro | intro _ | omega | assumption | with_reducible rfl
theorem sat_impl_ValidScene_1 : Sat Tryz.prog rt0 133 (wkIn spNVFil) := sat_in (sat_out sat_impl_ValidScene_1_0)
section
def spIdxF_A : (List Fil) → List AV
  | l => [.c (.sl false (l.map flC)), .c (.fn 133 [])]
def spIdxF_pre : (List Fil) → Prop
  | l => okFs l
def spIdxF_post : (List Fil) → AV → List Box → Prop
  | l, r, bs => ∃ m, r = I m ∧ bs = [] ∧ decide (0 ≤ m) = (!l.all vFil)
def spIdxF : VE.Spec := famSpec spIdxF_A d_lfl_f133 spIdxF_pre spIdxF_post 0 true
theorem spIdxF_q : SpQ spIdxF true [] false 0 (fun a i => i = [] ∧ famPre d_lfl_f133 spIdxF_A spIdxF_pre a) (fun a i r b => famPost d_lfl_f133 spIdxF_post a r b) := ⟨rfl, rfl, rfl, rfl, fun _ _ => rfl, fun _ _ _ _ => rfl⟩
def tb162 : Nat → Option VE.Spec := tabOf [(133, wkIn spNVFil)]
theorem tb162_133 : tb162 133 = some (wkIn spNVFil) := rfl
theorem tb162_ok : TabOK Tryz.prog rt0 tb162 := (tabOf_cons (by kernel_rfl) sat_impl_ValidScene_1 tabOf_nil)
section
attribute [local go_sem] Tryz.f162 tb162_133 spIdxF_q spIdxF_A spIdxF_pre spIdxF_post spNVFil_q spNVFil_A spNVFil_pre spNVFil_post
set_option maxHeartbeats 4000000 in
theorem sat_slices_IndexFunc_impl_Fill_impl_Fill_0 : Sat Tryz.prog rt0 162 (wkOut spIdxF) := by
  refine fn_sat hm ttok (tab := tb162) tb162_ok Tryz.func162 (c := Tryz.f162.body.getD .skip) (by kernel_rfl) (ts := [.tmp 4]) (by kernel_rfl) Tryz.ntmps162 (sq := fun _ => true) (by kernel_rfl) ?_
  intro args ins pk hpre0 hpk
  obtain ⟨rfl, hpre0⟩ := hpre0
  obtain ⟨l, rfl, hpre, hdec⟩ := famPre_ex hpre0
  clear hpre0 hdec
  try simp only [spIdxF_pre] at hpre
  replace hpk : pk + 0 ≤ pickLimit := hpk
  refine ⟨nle rfl, ?_⟩
  simp (maxSteps := 1000000) only [go_sem]
  repeat' first | apply And.intro | intro _ | omega | assumption | with_reducible rfl
  refine loopS (α := Int) false [2, 3, 4, 5, 6, 8, 9, 10, 11, 12, 13, 14, 15, 16, 17, 18] (fun σ => []) (fun σ x => [(8, I x)]) (fun σ x => []) (fun i => 0) (fun σ => gI (σ.get 8)) (fun σ τ => []) (fun i => 0 ≤ i ∧ i ≤ l.length ∧ (l.take i.toNat).all vFil = true) (fun i => (l.length - i).toNat) ⟨by (simp (maxSteps := 1000000) only [go_sem]; (repeat' (first | apply And.intro | (intro hh; first | (have h9 := okFs_at hpre hh) | skip) | omega | assumption | with_reducible rfl))), ?_⟩
  rintro i hinv
  try dsimp only at hinv
  simp (maxSteps := 1000000) only [go_sem]
  have hpl := hpre.len
  repeat' (first | apply And.intro | (intro hh; first | (have h9 := okFs_at hpre hh) | skip) | omega | assumption | with_reducible rfl)
  all_goals (first | (exact okFs_at hpre ‹_›) | (grind [→ takeN, takeA, all_bad]; done))
end
theorem sat_slices_IndexFunc_impl_Fill_impl_Fill : Sat Tryz.prog rt0 162 (wkIn spIdxF) := sat_in (sat_out sat_slices_IndexFunc_impl_Fill_impl_Fill_0)
def spHasF_A : (List Fil) → List AV
  | l => [.c (.sl false (l.map flC)), .c (.fn 133 [])]
def spHasF_pre : (List Fil) → Prop
  | l => okFs l
def spHasF_post : (List Fil) → AV → List Box → Prop
  | l, r, bs => r = B (!l.all vFil) ∧ bs = []
def spHasF : VE.Spec := famSpec spHasF_A d_lfl_f133 spHasF_pre spHasF_post 0 true
theorem spHasF_q : SpQ spHasF true [] false 0 (fun a i => i = [] ∧ famPre d_lfl_f133 spHasF_A spHasF_pre a) (fun a i r b => famPost d_lfl_f133 spHasF_post a r b) := ⟨rfl, rfl, rfl, rfl, fun _ _ => rfl, fun _ _ _ _ => rfl⟩
def tb132 : Nat → Option VE.Spec := tabOf [(162, wkIn spIdxF)]
theorem tb132_162 : tb132 162 = some (wkIn spIdxF) := rfl
theorem tb132_ok : TabOK Tryz.prog rt0 tb132 := (tabOf_cons (by kernel_rfl) sat_slices_IndexFunc_impl_Fill_impl_Fill tabOf_nil)
set_option maxHeartbeats 4000000 in
theorem sat_slices_ContainsFunc_impl_Fill_impl_Fill_0 : Sat Tryz.prog rt0 132 (wkOut spHasF) := by
  refine fn_sat hm ttok (tab := tb132) tb132_ok Tryz.func132 (c := Tryz.f132.body.getD .skip) (by kernel_rfl) (ts := [.tmp 4]) (by kernel_rfl) Tryz.ntmps132 (sq := fun _ => true) (by kernel_rfl) ?_
  intro args ins pk hpre0 hpk
  obtain ⟨rfl, hpre0⟩ := hpre0
  obtain ⟨l, rfl, hpre, hdec⟩ := famPre_ex hpre0
  clear hpre0 hdec
  try simp only [spHasF_pre] at hpre
  replace hpk : pk + 0 ≤ pickLimit := hpk
  refine ⟨nle rfl, ?_⟩
  simp (maxSteps := 1000000) only [go_sem, Tryz.f132, tb132_162, spHasF_q, spHasF_A, spHasF_pre, spHasF_post, spIdxF_q, spIdxF_A, spIdxF_pre, spIdxF_post]
  repeat' first | apply And.intro | intro _ | omega | assumption | with_reducible rfl
  all_goals (first | (grind; done))
theorem sat_slices_ContainsFunc_impl_Fill_impl_Fill : Sat Tryz.prog rt0 132 (wkIn spHasF) := sat_in (sat_out sat_slices_ContainsFunc_impl_Fill_impl_Fill_0)
def spVScn_A : Scn → List AV
  | s => [.agg (scC s)]
def spVScn_pre : Scn → Prop
  | s => okFs s.fs
def spVScn_post : Scn → AV → List Box → Prop
  | s, r, bs => r = B (vScn s) ∧ bs = []
def spVScn : VE.Spec := famSpec spVScn_A d_sc spVScn_pre spVScn_post 0 true
theorem spVScn_q : SpQ spVScn true [] false 0 (fun a i => i = [] ∧ famPre d_sc spVScn_A spVScn_pre a) (fun a i r b => famPost d_sc spVScn_post a r b) := ⟨rfl, rfl, rfl, rfl, fun _ _ => rfl, fun _ _ _ _ => rfl⟩
def tb101 : Nat → Option VE.Spec := tabOf [(67, wkIn spSzd), (132, wkIn spHasF)]
theorem tb101_67 : tb101 67 = some (wkIn spSzd) := rfl
theorem tb101_132 : tb101 132 = some (wkIn spHasF) := rfl
theorem tb101_ok : TabOK Tryz.prog rt0 tb101 := (tabOf_cons (by kernel_rfl) sat_impl_sized (tabOf_cons (by kernel_rfl) sat_slices_ContainsFunc_impl_Fill_impl_Fill tabOf_nil))
set_option maxHeartbeats 4000000 in
theorem sat_impl_ValidScene_0 : Sat Tryz.prog rt0 101 (wkOut spVScn) := by
  refine fn_sat hm ttok (tab := tb101) tb101_ok Tryz.func101 (c := Tryz.f101.body.getD .skip) (by kernel_rfl) (ts := [.tmp 2]) (by kernel_rfl) Tryz.ntmps101 (sq := fun _ => true) (by kernel_rfl) ?_
  intro args ins pk hpre0 hpk
  obtain ⟨rfl, hpre0⟩ := hpre0
  obtain ⟨s, rfl, hpre, hdec⟩ := famPre_ex hpre0
  clear hpre0 hdec
  try simp only [spVScn_pre] at hpre
  replace hpk : pk + 0 ≤ pickLimit := hpk
  refine ⟨nle rfl, ?_⟩
  simp (maxSteps := 1000000) only [go_sem, Tryz.f101, tb101_67, tb101_132, spVScn_q, spVScn_A, spVScn_pre, spVScn_post, spSzd_q, spSzd_A, spSzd_pre, spSzd_post, spHasF_q, spHasF_A, spHasF_pre, spHasF_post]
  repeat' first | apply And.intro | intro _ | omega | assumption | with_reducible rfl
  all_goals (first | (exact hpre) | (simp [vScn, *]; done) | (grind [vScn]; done))
theorem sat_impl_ValidScene : Sat Tryz.prog rt0 101 (wkIn spVScn) := sat_in (sat_out sat_impl_ValidScene_0)
theorem all_end {l : List Fil} {i : Int} (h : ¬ i < (l.length : Int)) (h2 : (l.take i.toNat).all vFil = true) : l.all vFil = true := by rwa [takeA (by omega)] at h2
def tb110 : Nat → Option VE.Spec := tabOf [(148, wkIn spVFil), (149, wkIn spSzd)]
theorem tb110_148 : tb110 148 = some (wkIn spVFil) := rfl
theorem tb110_149 : tb110 149 = some (wkIn spSzd) := rfl
theorem tb110_ok : TabOK Tryz.prog rt0 tb110 := (tabOf_cons (by kernel_rfl) sat_spec_validFill (tabOf_cons (by kernel_rfl) sat_spec_validSize tabOf_nil))
section
attribute [local go_sem] Tryz.f110 tb110_148 tb110_149 spVScn_q spVScn_A spVScn_pre spVScn_post spVFil_q spVFil_A spVFil_pre spVFil_post spSzd_q spSzd_A spSzd_pre spSzd_post
set_option maxHeartbeats 4000000 in
theorem sat_spec_validScene_0 : Sat Tryz.prog rt0 110 (wkOut spVScn) := by
  refine fn_sat hm ttok (tab := tb110) tb110_ok Tryz.func110 (c := Tryz.f110.body.getD .skip) (by kernel_rfl) (ts := [.tmp 2]) (by kernel_rfl) Tryz.ntmps110 (sq := fun _ => true) (by kernel_rfl) ?_
  intro args ins pk hpre0 hpk
  obtain ⟨rfl, hpre0⟩ := hpre0
  obtain ⟨s, rfl, hpre, hdec⟩ := famPre_ex hpre0
  clear hpre0 hdec
  try simp only [spVScn_pre] at hpre
  replace hpk : pk + 0 ≤ pickLimit := hpk
  refine ⟨nle rfl, ?_⟩
  simp (maxSteps := 1000000) only [go_sem]
  repeat' first | apply And.intro | intro _ | omega | assumption | with_reducible rfl
  refine loopS (α := Int) false [0, 2, 3, 4, 5, 6, 7, 8, 9, 10, 11, 12, 13, 14, 15, 16, 17] (fun σ => []) (fun σ x => [(3, I x)]) (fun σ x => []) (fun i => 0) (fun σ => gI (σ.get 3)) (fun σ τ => []) (fun i => 0 ≤ i ∧ i ≤ s.fs.length ∧ (s.fs.take i.toNat).all vFil = true) (fun i => (s.fs.length - i).toNat) ⟨by (simp (maxSteps := 1000000) only [go_sem]; (repeat' first | apply And.intro | intro _ | omega | assumption | with_reducible rfl)), ?_⟩
  rintro i hinv
  try dsimp only at hinv
  rcases elemAt s.fs i (by omega) with ⟨hlt, f, hk⟩ | hlt
  all_goals (first | ((have hlt2 := of_eq_true hlt); (have hf := okFs_at hpre hk); (have hpl := hpre.len); all_goals simp (maxSteps := 1000000) only [go_sem, hlt, hk]) | (have hlt2 := of_eq_false hlt; simp (maxSteps := 1000000) only [go_sem, hlt]))
  all_goals
    repeat' first | apply And.intro | intro _ | omega | assumption | with_reducible rfl
  all_goals (first | ((have hpl := hpre.len; omega); done) | (exact okFs_at hpre ‹_›) | ((rw [takeN hk hinv.1, List.all_append, hinv.2.2]; simp [*]); done) | ((have h9 := all_bad hk ‹vFil f = false›; simp [vScn, h9]); done) | ((have h9 := all_end hlt2 hinv.2.2; simp [vScn, *]); done) | (grind [vScn, → takeN, takeA, all_bad]; done))
end
theorem sat_spec_validScene : Sat Tryz.prog rt0 110 (wkIn spVScn) := sat_in (sat_out sat_spec_validScene_0)
end
end Go.Proofs.YthphndhiacikaaaGreatDoor
