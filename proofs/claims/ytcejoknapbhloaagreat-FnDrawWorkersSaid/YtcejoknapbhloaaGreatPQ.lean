/- Contracts of functions of the program vectorraster, each proved for all states that fit its description. No conditions. -/
import Derived.Test.YtcejoknapbhloaaGreatPA
import Derived.Test.YtcejoknapbhloaaGreatKS
import Derived.Test.YtcejoknapbhloaaGreatPO
import Derived.Test.YtcejoknapbhloaaGreatPE
import Derived.Test.YtcejoknapbhloaaGreatPC
import Derived.Test.YtcejoknapbhloaaGreatPF
import Derived.Test.YtcejoknapbhloaaGreatPD
set_option linter.unusedSimpArgs false
set_option linter.unusedVariables false
set_option maxRecDepth 100000
namespace Go.Proofs.YtcejoknapbhloaaGreat
open Go Go.VE
def vCol (c : Colr) : Bool := decide (0 ≤ c.a ∧ c.a ≤ 255) && decide (0 ≤ c.r ∧ c.r ≤ c.a) && decide (0 ≤ c.g ∧ c.g ≤ c.a) && decide (0 ≤ c.b ∧ c.b ≤ c.a)
def vStp : Int → List Stp → Bool
  | _, [] => true
  | p, s :: r => decide (p + 1 ≤ s.w ∧ s.w ≤ 256) && vCol s.c && vStp s.w r
def vStops (l : List Stp) : Bool := vStp (-1) l && decide (1 ≤ l.length ∧ l.length ≤ 4)
def lastW (l : List Stp) (i : Int) : Int := if i = 0 then -1 else ((l[(i - 1).toNat]?).map (·.w)).getD (-1)
theorem lastW_prev {l : List Stp} {i : Int} {s : Stp} (hi : ¬ i = 0) (h : l[(i - 1).toNat]? = some s) : lastW l i = s.w := by
  rw [lastW, if_neg hi, h]; rfl
theorem lastW_next {l : List Stp} {i : Int} {s : Stp} (h0 : 0 ≤ i) (h : l[i.toNat]? = some s) : lastW l (i + 1) = s.w := lastW_prev (by omega) (by rwa [show i + 1 - 1 = i by omega])
theorem vStp_step {l : List Stp} {i p : Int} {s : Stp} (h0 : 0 ≤ i) (h : l[i.toNat]? = some s) : vStp p (l.drop i.toNat) = (decide (p + 1 ≤ s.w ∧ s.w ≤ 256) && vCol s.c && vStp s.w (l.drop (i + 1).toNat)) := by
  rw [dropN h h0]; rfl
theorem vStops_bad {l : List Stp} (h : vStp (-1) l = false) : vStops l = false := by rw [vStops, h]; rfl
theorem vStp_end {l : List Stp} {i p : Int} (h : ¬ i < (l.length : Int)) : vStp p (l.drop i.toNat) = true := by
  rw [List.drop_eq_nil_of_le (by omega)]; rfl
theorem vStops_end {l : List Stp} (h : true = vStp (-1) l) : vStops l = decide (1 ≤ (l.length : Int) ∧ (l.length : Int) ≤ 4) := by
  rw [vStops, ← h, Bool.true_and, decide_eq_decide]; omega
def vPnt (p : Pnt) : Bool := vStops p.ss && vPt p.f && vPt p.t
def vFil (f : Fil) : Bool := vPath f.p && vRings (ringsOf f.p) && isRl f.rl && vPnt f.pn
def vScn (s : Scn) : Bool := szd s.w s.h && decide (s.fs.length ≤ 4) && s.fs.all vFil
structure okF (f : Fil) : Prop where
  p : f.p.length ≤ 1000
  n : nPts f.p ≤ 1000
  s : f.pn.ss.length ≤ 1000
structure okFs (l : List Fil) : Prop where
  len : l.length ≤ 1000
  all : ∀ f ∈ l, okF f
theorem okFs_at {l : List Fil} {i : Int} {f : Fil} (h : okFs l) (hf : l[i.toNat]? = some f) : okF f := h.all f (List.mem_of_getElem? hf)
theorem okFs_nil : okFs [] := ⟨by simp, fun f hf => by cases hf⟩
theorem okFs_snoc {l : List Fil} {f : Fil} (h : okFs l) (hl : l.length ≤ 900) (hf : okF f) : okFs (l ++ [f]) := ⟨by simp; omega, fun g hg => (List.mem_append.1 hg).elim (h.all g) fun hg => by rw [List.mem_singleton] at hg; exact hg ▸ hf⟩
section
def spAll_A : (List Int) × Int × Int → List AV
  | (l, lo, hi) => [.c (.sl false (l.map intC)), I lo, I hi]
def spAll_pre : (List Int) × Int × Int → Prop
  | (l, lo, hi) => l.length ≤ 1000000
def spAll_post : (List Int) × Int × Int → AV → List Box → Prop
  | (l, lo, hi), r, bs => r = B (l.all fun n => decide (lo ≤ n ∧ n ≤ hi)) ∧ bs = []
def spAll : VE.Spec := famSpec spAll_A d_li_i_i spAll_pre spAll_post 0 true
theorem spAll_q : SpQ spAll true [] false 0 (fun a i => i = [] ∧ famPre d_li_i_i spAll_A spAll_pre a) (fun a i r b => famPost d_li_i_i spAll_post a r b) := ⟨rfl, rfl, rfl, rfl, fun _ _ => rfl, fun _ _ _ _ => rfl⟩
def tb160 : Nat → Option VE.Spec := tabOf [(35, wkIn spIn)]
theorem tb160_35 : tb160 35 = some (wkIn spIn) := rfl
theorem tb160_ok : TabOK Tryz.prog rt0 tb160 := (tabOf_cons (by kernel_rfl) sat_spec_inRange tabOf_nil)
section
attribute [local go_sem] Tryz.f160 tb160_35 spAll_q spAll_A spAll_pre spAll_post spIn_q spIn_A spIn_pre spIn_post
set_option maxHeartbeats 4000000 in
theorem sat_spec_allIn_0 : Sat Tryz.prog rt0 160 (wkOut spAll) := by
  refine fn_sat hm ttok (tab := tb160) tb160_ok Tryz.func160 (c := Tryz.f160.body.getD .skip) (by kernel_rfl) (ts := [.tmp 6]) (by kernel_rfl) Tryz.ntmps160 (sq := fun _ => true) (by kernel_rfl) ?_
  intro args ins pk hpre0 hpk
  obtain ⟨rfl, hpre0⟩ := hpre0
  obtain ⟨⟨l, lo, hi⟩, rfl, hpre, hdec⟩ := famPre_ex hpre0
  clear hpre0 hdec
  try simp only [spAll_pre] at hpre
  replace hpk : pk + 0 ≤ pickLimit := hpk
  refine ⟨nle rfl, ?_⟩
  simp (maxSteps := 1000000) only [go_sem]
  repeat' first | apply And.intro | intro _ | omega | assumption | with_reducible rfl
  refine loopS (α := Int) false [3, 4, 5, 6, 7, 8, 9, 10, 11, 12, 13, 14, 15, 16, 17, 18, 19, 20, 21] (fun σ => []) (fun σ x => [(7, I x)]) (fun σ x => []) (fun i => 0) (fun σ => gI (σ.get 7)) (fun σ τ => []) (fun i => 0 ≤ i ∧ i ≤ l.length ∧ ((l.take i.toNat).all fun n => decide (lo ≤ n ∧ n ≤ hi)) = true) (fun i => (l.length - i).toNat) ⟨by (simp (maxSteps := 1000000) only [go_sem]; (repeat' first | apply And.intro | intro _ | omega | assumption | with_reducible rfl)), ?_⟩
  rintro i hinv
  try dsimp only at hinv
  simp (maxSteps := 1000000) only [go_sem]
  repeat' first | apply And.intro | intro _ | omega | assumption | with_reducible rfl
  all_goals (first | (grind [→ takeN, takeA, all_bad]; done))
end
theorem sat_spec_allIn : Sat Tryz.prog rt0 160 (wkIn spAll) := sat_in (sat_out sat_spec_allIn_0)
def spVCol_A : Colr → List AV
  | c => [.agg (coC c)]
def spVCol_pre : Colr → Prop
  | c => True
def spVCol_post : Colr → AV → List Box → Prop
  | c, r, bs => r = B (vCol c) ∧ bs = []
def spVCol : VE.Spec := famSpec spVCol_A d_co spVCol_pre spVCol_post 0 true
theorem spVCol_q : SpQ spVCol true [] false 0 (fun a i => i = [] ∧ famPre d_co spVCol_A spVCol_pre a) (fun a i r b => famPost d_co spVCol_post a r b) := ⟨rfl, rfl, rfl, rfl, fun _ _ => rfl, fun _ _ _ _ => rfl⟩
def tb120 : Nat → Option VE.Spec := tabOf [(48, wkIn spIn)]
theorem tb120_48 : tb120 48 = some (wkIn spIn) := rfl
theorem tb120_ok : TabOK Tryz.prog rt0 tb120 := (tabOf_cons (by kernel_rfl) sat_impl_in tabOf_nil)
set_option maxHeartbeats 4000000 in
theorem sat_impl_ValidColor_0 : Sat Tryz.prog rt0 120 (wkOut spVCol) := by
  refine fn_sat hm ttok (tab := tb120) tb120_ok Tryz.func120 (c := Tryz.f120.body.getD .skip) (by kernel_rfl) (ts := [.tmp 2]) (by kernel_rfl) Tryz.ntmps120 (sq := fun _ => true) (by kernel_rfl) ?_
  intro args ins pk hpre0 hpk
  obtain ⟨rfl, hpre0⟩ := hpre0
  obtain ⟨c, rfl, hpre, hdec⟩ := famPre_ex hpre0
  clear hpre0 hdec
  try simp only [spVCol_pre] at hpre
  replace hpk : pk + 0 ≤ pickLimit := hpk
  refine ⟨nle rfl, ?_⟩
  simp (maxSteps := 1000000) only [go_sem, Tryz.f120, tb120_48, spVCol_q, spVCol_A, spVCol_pre, spVCol_post, spIn_q, spIn_A, spIn_pre, spIn_post]
  repeat' first | apply And.intro | intro _ | omega | assumption | with_reducible rfl
  all_goals (first | (simp [vCol, *]; done) | ((simp only [vCol]; grind); done) | (grind [vCol]; done) | (simp_all [vCol]; done))
theorem sat_impl_ValidColor : Sat Tryz.prog rt0 120 (wkIn spVCol) := sat_in (sat_out sat_impl_ValidColor_0)
def tb144 : Nat → Option VE.Spec := tabOf [(35, wkIn spIn), (160, wkIn spAll)]
theorem tb144_35 : tb144 35 = some (wkIn spIn) := rfl
theorem tb144_160 : tb144 160 = some (wkIn spAll) := rfl
theorem tb144_ok : TabOK Tryz.prog rt0 tb144 := (tabOf_cons (by kernel_rfl) sat_spec_inRange (tabOf_cons (by kernel_rfl) sat_spec_allIn tabOf_nil))
set_option maxHeartbeats 4000000 in
theorem sat_spec_validColor_0 : Sat Tryz.prog rt0 144 (wkOut spVCol) := by
  refine fn_sat hm ttok (tab := tb144) tb144_ok Tryz.func144 (c := Tryz.f144.body.getD .skip) (by kernel_rfl) (ts := [.tmp 2]) (by kernel_rfl) Tryz.ntmps144 (sq := fun _ => true) (by kernel_rfl) ?_
  intro args ins pk hpre0 hpk
  obtain ⟨rfl, hpre0⟩ := hpre0
  obtain ⟨c, rfl, hpre, hdec⟩ := famPre_ex hpre0
  clear hpre0 hdec
  try simp only [spVCol_pre] at hpre
  replace hpk : pk + 0 ≤ pickLimit := hpk
  refine ⟨nle rfl, ?_⟩
  simp (maxSteps := 1000000) only [go_sem, Tryz.f144, tb144_35, tb144_160, spVCol_q, spVCol_A, spVCol_pre, spVCol_post, spIn_q, spIn_A, spIn_pre, spIn_post, spAll_q, spAll_A, spAll_pre, spAll_post]
  repeat' first | apply And.intro | intro _ | omega | assumption | with_reducible rfl
  all_goals (first | (simp [vCol, *]; done) | ((simp only [vCol]; grind); done) | (grind [vCol]; done) | (simp_all [vCol]; done))
theorem sat_spec_validColor : Sat Tryz.prog rt0 144 (wkIn spVCol) := sat_in (sat_out sat_spec_validColor_0)
end
section
def spVSt_A : (List Stp) → List AV
  | l => [.c (.sl false (l.map stC))]
def spVSt_pre : (List Stp) → Prop
  | l => l.length ≤ 1000000
def spVSt_post : (List Stp) → AV → List Box → Prop
  | l, r, bs => r = B (vStops l) ∧ bs = []
def spVSt : VE.Spec := famSpec spVSt_A d_lst spVSt_pre spVSt_post 0 true
theorem spVSt_q : SpQ spVSt true [] false 0 (fun a i => i = [] ∧ famPre d_lst spVSt_A spVSt_pre a) (fun a i r b => famPost d_lst spVSt_post a r b) := ⟨rfl, rfl, rfl, rfl, fun _ _ => rfl, fun _ _ _ _ => rfl⟩
def tb118 : Nat → Option VE.Spec := tabOf [(48, wkIn spIn), (120, wkIn spVCol)]
theorem tb118_48 : tb118 48 = some (wkIn spIn) := rfl
theorem tb118_120 : tb118 120 = some (wkIn spVCol) := rfl
theorem tb118_ok : TabOK Tryz.prog rt0 tb118 := (tabOf_cons (by kernel_rfl) sat_impl_in (tabOf_cons (by kernel_rfl) sat_impl_ValidColor tabOf_nil))
section
attribute [local go_sem] Tryz.f118 tb118_48 tb118_120 spVSt_q spVSt_A spVSt_pre spVSt_post spIn_q spIn_A spIn_pre spIn_post spVCol_q spVCol_A spVCol_pre spVCol_post
set_option maxHeartbeats 4000000 in
theorem sat_impl_ValidStops_0 : Sat Tryz.prog rt0 118 (wkOut spVSt) := by
  refine fn_sat hm ttok (tab := tb118) tb118_ok Tryz.func118 (c := Tryz.f118.body.getD .skip) (by kernel_rfl) (ts := [.tmp 2]) (by kernel_rfl) Tryz.ntmps118 (sq := fun _ => true) (by kernel_rfl) ?_
  intro args ins pk hpre0 hpk
  obtain ⟨rfl, hpre0⟩ := hpre0
  obtain ⟨l, rfl, hpre, hdec⟩ := famPre_ex hpre0
  clear hpre0 hdec
  try simp only [spVSt_pre] at hpre
  replace hpk : pk + 0 ≤ pickLimit := hpk
  refine ⟨nle rfl, ?_⟩
  simp (maxSteps := 1000000) only [go_sem]
  repeat' first | apply And.intro | intro _ | omega | assumption | with_reducible rfl
  any_goals
    refine loopS (α := Int × Int) false [1, 2, 3, 4, 5, 8, 9, 10, 11, 12, 13, 14, 15, 16, 17, 18, 19, 20, 21, 22, 23, 24, 25, 26] (fun σ => []) (fun σ x => [(3, I x.1), (8, I x.2)]) (fun σ x => []) (fun (p, i) => 0) (fun σ => (gI (σ.get 3), gI (σ.get 8))) (fun σ τ => []) (fun (p, i) => 0 ≤ i ∧ i ≤ l.length ∧ (-1 ≤ p ∧ p ≤ 256) ∧ vStp p (l.drop i.toNat) = vStp (-1) l) (fun (p, i) => (l.length - i).toNat) ⟨by (simp (maxSteps := 1000000) only [go_sem]; (repeat' first | apply And.intro | intro _ | omega | assumption | with_reducible rfl); all_goals (first | rfl)), ?_⟩
    rintro ⟨p, i⟩ hinv
    try dsimp only at hinv
    rcases elemAt l i (by omega) with ⟨hlt, q, hk⟩ | hlt
    all_goals (first | ((have hlt2 := of_eq_true hlt); (have hS := vStp_step (p := p) hinv.1 hk); all_goals simp (maxSteps := 1000000) only [go_sem, hlt, hk]) | (have hlt2 := of_eq_false hlt; simp (maxSteps := 1000000) only [go_sem, hlt]))
    all_goals
      repeat' first | apply And.intro | intro _ | omega | assumption | with_reducible rfl
  
  all_goals (first | ((refine (vStops_bad ?_).symm; rw [← hinv.2.2.2, hS]; simp [*]); done) | ((rw [← hinv.2.2.2, hS]; simp [*]); done) | ((rw [vStops_end (by rw [← hinv.2.2.2, vStp_end (by omega)])]); done) | (grind; done))
end
theorem sat_impl_ValidStops : Sat Tryz.prog rt0 118 (wkIn spVSt) := sat_in (sat_out sat_impl_ValidStops_0)
theorem st_bad {l : List Stp} {i : Int} {q : Stp} (h : vStp (lastW l i) (l.drop i.toNat) = vStp (-1) l) (hS : vStp (lastW l i) (l.drop i.toNat) = (decide (lastW l i + 1 ≤ q.w ∧ q.w ≤ 256) && vCol q.c && vStp q.w (l.drop (i + 1).toNat))) (hb : ¬ (lastW l i + 1 ≤ q.w ∧ q.w ≤ 256)) : false = vStops l := by
  refine (vStops_bad ?_).symm
  rw [← h, hS, decide_eq_false hb]; rfl
theorem st_bad2 {l : List Stp} {i : Int} {q : Stp} (h : vStp (lastW l i) (l.drop i.toNat) = vStp (-1) l) (hS : vStp (lastW l i) (l.drop i.toNat) = (decide (lastW l i + 1 ≤ q.w ∧ q.w ≤ 256) && vCol q.c && vStp q.w (l.drop (i + 1).toNat))) (hb : vCol q.c = false) : false = vStops l := by
  refine (vStops_bad ?_).symm
  rw [← h, hS, hb, Bool.and_false]; rfl
theorem st_next {l : List Stp} {i : Int} {q : Stp} (h : vStp (lastW l i) (l.drop i.toNat) = vStp (-1) l) (hS : vStp (lastW l i) (l.drop i.toNat) = (decide (lastW l i + 1 ≤ q.w ∧ q.w ≤ 256) && vCol q.c && vStp q.w (l.drop (i + 1).toNat))) (hN : lastW l (i + 1) = q.w) (hb : vCol q.c = true) (hw : lastW l i + 1 ≤ q.w ∧ q.w ≤ 256) : vStp (lastW l (i + 1)) (l.drop (i + 1).toNat) = vStp (-1) l := by
  rw [← h, hS, hN, hb, decide_eq_true hw]; rfl
def tb101 : Nat → Option VE.Spec := tabOf [(35, wkIn spIn), (144, wkIn spVCol)]
theorem tb101_35 : tb101 35 = some (wkIn spIn) := rfl
theorem tb101_144 : tb101 144 = some (wkIn spVCol) := rfl
theorem tb101_ok : TabOK Tryz.prog rt0 tb101 := (tabOf_cons (by kernel_rfl) sat_spec_inRange (tabOf_cons (by kernel_rfl) sat_spec_validColor tabOf_nil))
section
attribute [local go_sem] Tryz.f101 tb101_35 tb101_144 spVSt_q spVSt_A spVSt_pre spVSt_post spIn_q spIn_A spIn_pre spIn_post spVCol_q spVCol_A spVCol_pre spVCol_post
set_option maxHeartbeats 4000000 in
theorem sat_spec_validStops_0 : Sat Tryz.prog rt0 101 (wkOut spVSt) := by
  refine fn_sat hm ttok (tab := tb101) tb101_ok Tryz.func101 (c := Tryz.f101.body.getD .skip) (by kernel_rfl) (ts := [.tmp 2]) (by kernel_rfl) Tryz.ntmps101 (sq := fun _ => true) (by kernel_rfl) ?_
  intro args ins pk hpre0 hpk
  obtain ⟨rfl, hpre0⟩ := hpre0
  obtain ⟨l, rfl, hpre, hdec⟩ := famPre_ex hpre0
  clear hpre0 hdec
  try simp only [spVSt_pre] at hpre
  replace hpk : pk + 0 ≤ pickLimit := hpk
  refine ⟨nle rfl, ?_⟩
  simp (maxSteps := 1000000) only [go_sem]
  repeat' first | apply And.intro | intro _ | omega | assumption | with_reducible rfl
  refine loopS (α := Int) false [1, 2, 3, 4, 5, 6, 7, 8, 9, 10, 11, 12, 13, 14, 15, 16, 17, 18, 19, 20, 21, 22, 23, 24, 25, 26, 27, 28, 29, 30, 31, 32, 33, 34, 35, 36, 37, 38, 39, 40, 41, 42, 43] (fun σ => []) (fun σ x => [(3, I x)]) (fun σ x => []) (fun i => 0) (fun σ => gI (σ.get 3)) (fun σ τ => []) (fun i => 0 ≤ i ∧ i ≤ l.length ∧ -1 ≤ lastW l i ∧ vStp (lastW l i) (l.drop i.toNat) = vStp (-1) l) (fun i => (l.length - i).toNat) ⟨by (simp (maxSteps := 1000000) only [go_sem]; (repeat' first | apply And.intro | intro _ | omega | assumption | with_reducible rfl); all_goals (first | rfl | (simp [lastW]))), ?_⟩
  rintro i hinv
  try dsimp only at hinv
  rcases elemAt l i (by omega) with ⟨hlt, q, hk⟩ | hlt
  all_goals (first | ((have hlt2 := of_eq_true hlt); (have hS := vStp_step (p := lastW l i) hinv.1 hk); (have hN := lastW_next hinv.1 hk); (have h00 : i = 0 → lastW l i = -1 := fun h => by rw [h]; rfl); all_goals simp (maxSteps := 1000000) only [go_sem, hlt, hk]) | (have hlt2 := of_eq_false hlt; simp (maxSteps := 1000000) only [go_sem, hlt]))
  all_goals
    repeat' first | apply And.intro | intro _ | omega | assumption | with_reducible rfl
  all_goals (first | ((have e := lastW_prev (l := l) (i := i) (by omega) ‹l[(i - 1).toNat]? = some _›; refine st_bad hinv.2.2.2 hS ?_; omega); done) | ((have e := lastW_prev (l := l) (i := i) (by omega) ‹l[(i - 1).toNat]? = some _›; refine st_next hinv.2.2.2 hS hN ‹vCol q.c = true› ?_; omega); done) | ((have e := h00 (by omega); refine st_next hinv.2.2.2 hS hN ‹vCol q.c = true› ?_; omega); done) | (exact st_bad2 hinv.2.2.2 hS ‹_›) | ((refine st_bad hinv.2.2.2 hS ?_; omega); done) | (exact (vStops_end ((vStp_end hlt2).symm.trans hinv.2.2.2)).symm))
end
theorem sat_spec_validStops : Sat Tryz.prog rt0 101 (wkIn spVSt) := sat_in (sat_out sat_spec_validStops_0)
end
def spVPnt_A : Pnt → List AV
  | p => [.agg (pnC p)]
def spVPnt_pre : Pnt → Prop
  | p => p.ss.length ≤ 1000000
def spVPnt_post : Pnt → AV → List Box → Prop
  | p, r, bs => r = B (vPnt p) ∧ bs = []
def spVPnt : VE.Spec := famSpec spVPnt_A d_pn spVPnt_pre spVPnt_post 0 true
theorem spVPnt_q : SpQ spVPnt true [] false 0 (fun a i => i = [] ∧ famPre d_pn spVPnt_A spVPnt_pre a) (fun a i r b => famPost d_pn spVPnt_post a r b) := ⟨rfl, rfl, rfl, rfl, fun _ _ => rfl, fun _ _ _ _ => rfl⟩
def tb79 : Nat → Option VE.Spec := tabOf [(118, wkIn spVSt), (119, wkIn spVPt)]
theorem tb79_118 : tb79 118 = some (wkIn spVSt) := rfl
theorem tb79_119 : tb79 119 = some (wkIn spVPt) := rfl
theorem tb79_ok : TabOK Tryz.prog rt0 tb79 := (tabOf_cons (by kernel_rfl) sat_impl_ValidStops (tabOf_cons (by kernel_rfl) sat_impl_Point_valid tabOf_nil))
set_option maxHeartbeats 4000000 in
theorem sat_impl_Paint_valid_0 : Sat Tryz.prog rt0 79 (wkOut spVPnt) := by
  refine fn_sat hm ttok (tab := tb79) tb79_ok Tryz.func79 (c := Tryz.f79.body.getD .skip) (by kernel_rfl) (ts := [.tmp 2]) (by kernel_rfl) Tryz.ntmps79 (sq := fun _ => true) (by kernel_rfl) ?_
  intro args ins pk hpre0 hpk
  obtain ⟨rfl, hpre0⟩ := hpre0
  obtain ⟨p, rfl, hpre, hdec⟩ := famPre_ex hpre0
  clear hpre0 hdec
  try simp only [spVPnt_pre] at hpre
  replace hpk : pk + 0 ≤ pickLimit := hpk
  refine ⟨nle rfl, ?_⟩
  simp (maxSteps := 1000000) only [go_sem, Tryz.f79, tb79_118, tb79_119, spVPnt_q, spVPnt_A, spVPnt_pre, spVPnt_post, spVSt_q, spVSt_A, spVSt_pre, spVSt_post, spVPt_q, spVPt_A, spVPt_pre, spVPt_post]
  repeat' first | apply And.intro | intro _ | omega | assumption | with_reducible rfl
  all_goals (first | (simp [vPnt, *]; done) | (simp_all [vPnt]; done) | (grind [vPnt]; done))
theorem sat_impl_Paint_valid : Sat Tryz.prog rt0 79 (wkIn spVPnt) := sat_in (sat_out sat_impl_Paint_valid_0)
def tb66 : Nat → Option VE.Spec := tabOf [(101, wkIn spVSt), (102, wkIn spVPt)]
theorem tb66_101 : tb66 101 = some (wkIn spVSt) := rfl
theorem tb66_102 : tb66 102 = some (wkIn spVPt) := rfl
theorem tb66_ok : TabOK Tryz.prog rt0 tb66 := (tabOf_cons (by kernel_rfl) sat_spec_validStops (tabOf_cons (by kernel_rfl) sat_spec_validPoint tabOf_nil))
set_option maxHeartbeats 4000000 in
theorem sat_spec_validPaint_0 : Sat Tryz.prog rt0 66 (wkOut spVPnt) := by
  refine fn_sat hm ttok (tab := tb66) tb66_ok Tryz.func66 (c := Tryz.f66.body.getD .skip) (by kernel_rfl) (ts := [.tmp 2]) (by kernel_rfl) Tryz.ntmps66 (sq := fun _ => true) (by kernel_rfl) ?_
  intro args ins pk hpre0 hpk
  obtain ⟨rfl, hpre0⟩ := hpre0
  obtain ⟨p, rfl, hpre, hdec⟩ := famPre_ex hpre0
  clear hpre0 hdec
  try simp only [spVPnt_pre] at hpre
  replace hpk : pk + 0 ≤ pickLimit := hpk
  refine ⟨nle rfl, ?_⟩
  simp (maxSteps := 1000000) only [go_sem, Tryz.f66, tb66_101, tb66_102, spVPnt_q, spVPnt_A, spVPnt_pre, spVPnt_post, spVSt_q, spVSt_A, spVSt_pre, spVSt_post, spVPt_q, spVPt_A, spVPt_pre, spVPt_post]
  repeat' first | apply And.intro | intro _ | omega | assumption | with_reducible rfl
  all_goals (first | (simp [vPnt, *]; done) | (simp_all [vPnt]; done) | (grind [vPnt]; done))
theorem sat_spec_validPaint : Sat Tryz.prog rt0 66 (wkIn spVPnt) := sat_in (sat_out sat_spec_validPaint_0)
def spVFil_A : Fil → List AV
  | f => [.agg (flC f)]
def spVFil_pre : Fil → Prop
  | f => okF f
def spVFil_post : Fil → AV → List Box → Prop
  | f, r, bs => r = B (vFil f) ∧ bs = []
def spVFil : VE.Spec := famSpec spVFil_A d_fl spVFil_pre spVFil_post 0 true
theorem spVFil_q : SpQ spVFil true [] false 0 (fun a i => i = [] ∧ famPre d_fl spVFil_A spVFil_pre a) (fun a i r b => famPost d_fl spVFil_post a r b) := ⟨rfl, rfl, rfl, rfl, fun _ _ => rfl, fun _ _ _ _ => rfl⟩
def tb47 : Nat → Option VE.Spec := tabOf [(75, wkIn spVPath), (77, wkIn spRings), (76, wkIn spVRings), (78, wkIn spRl), (79, wkIn spVPnt)]
theorem tb47_75 : tb47 75 = some (wkIn spVPath) := rfl
theorem tb47_77 : tb47 77 = some (wkIn spRings) := rfl
theorem tb47_76 : tb47 76 = some (wkIn spVRings) := rfl
theorem tb47_78 : tb47 78 = some (wkIn spRl) := rfl
theorem tb47_79 : tb47 79 = some (wkIn spVPnt) := rfl
theorem tb47_ok : TabOK Tryz.prog rt0 tb47 := (tabOf_cons (by kernel_rfl) sat_impl_ValidPath (tabOf_cons (by kernel_rfl) sat_impl_rings (tabOf_cons (by kernel_rfl) sat_impl_ValidRings (tabOf_cons (by kernel_rfl) sat_impl_isRule (tabOf_cons (by kernel_rfl) sat_impl_Paint_valid tabOf_nil)))))
set_option maxHeartbeats 4000000 in
theorem sat_impl_Fill_valid_0 : Sat Tryz.prog rt0 47 (wkOut spVFil) := by
  refine fn_sat hm ttok (tab := tb47) tb47_ok Tryz.func47 (c := Tryz.f47.body.getD .skip) (by kernel_rfl) (ts := [.tmp 2]) (by kernel_rfl) Tryz.ntmps47 (sq := fun _ => true) (by kernel_rfl) ?_
  intro args ins pk hpre0 hpk
  obtain ⟨rfl, hpre0⟩ := hpre0
  obtain ⟨f, rfl, hpre, hdec⟩ := famPre_ex hpre0
  clear hpre0 hdec
  try simp only [spVFil_pre] at hpre
  replace hpk : pk + 0 ≤ pickLimit := hpk
  refine ⟨nle rfl, ?_⟩
  simp (maxSteps := 1000000) only [go_sem, Tryz.f47, tb47_75, tb47_77, tb47_76, tb47_78, tb47_79, spVFil_q, spVFil_A, spVFil_pre, spVFil_post, spVPath_q, spVPath_A, spVPath_pre, spVPath_post, spRings_q, spRings_A, spRings_pre, spRings_post, spVRings_q, spVRings_A, spVRings_pre, spVRings_post, spRl_q, spRl_A, spRl_pre, spRl_post, spVPnt_q, spVPnt_A, spVPnt_pre, spVPnt_post]
  repeat' first | apply And.intro | intro _ | omega | assumption | with_reducible rfl
  all_goals (first | ((have h1 := hpre.p; have h2 := hpre.n; have h3 := hpre.s; omega); done) | (exact (rings_tot2 ‹vPath f.p = true›).1) | (exact (rings_tot2 ‹vPath f.p = true›).2) | (simp [vFil, *]; done) | ((simp only [vFil, *]; simp); done) | ((simp only [vFil, isRl, *]; simp; omega); done) | (simp_all [vFil]; done) | (grind [vFil, isRl]; done))
theorem sat_impl_Fill_valid : Sat Tryz.prog rt0 47 (wkIn spVFil) := sat_in (sat_out sat_impl_Fill_valid_0)
def tb36 : Nat → Option VE.Spec := tabOf [(63, wkIn spVPath), (65, wkIn spRings), (64, wkIn spVRings), (35, wkIn spIn), (66, wkIn spVPnt)]
theorem tb36_63 : tb36 63 = some (wkIn spVPath) := rfl
theorem tb36_65 : tb36 65 = some (wkIn spRings) := rfl
theorem tb36_64 : tb36 64 = some (wkIn spVRings) := rfl
theorem tb36_35 : tb36 35 = some (wkIn spIn) := rfl
theorem tb36_66 : tb36 66 = some (wkIn spVPnt) := rfl
theorem tb36_ok : TabOK Tryz.prog rt0 tb36 := (tabOf_cons (by kernel_rfl) sat_spec_validPath (tabOf_cons (by kernel_rfl) sat_spec_rings (tabOf_cons (by kernel_rfl) sat_spec_validRings (tabOf_cons (by kernel_rfl) sat_spec_inRange (tabOf_cons (by kernel_rfl) sat_spec_validPaint tabOf_nil)))))
set_option maxHeartbeats 4000000 in
theorem sat_spec_validFill_0 : Sat Tryz.prog rt0 36 (wkOut spVFil) := by
  refine fn_sat hm ttok (tab := tb36) tb36_ok Tryz.func36 (c := Tryz.f36.body.getD .skip) (by kernel_rfl) (ts := [.tmp 2]) (by kernel_rfl) Tryz.ntmps36 (sq := fun _ => true) (by kernel_rfl) ?_
  intro args ins pk hpre0 hpk
  obtain ⟨rfl, hpre0⟩ := hpre0
  obtain ⟨f, rfl, hpre, hdec⟩ := famPre_ex hpre0
  clear hpre0 hdec
  try simp only [spVFil_pre] at hpre
  replace hpk : pk + 0 ≤ pickLimit := hpk
  refine ⟨nle rfl, ?_⟩
  simp (maxSteps := 1000000) only [go_sem, Tryz.f36, tb36_63, tb36_65, tb36_64, tb36_35, tb36_66, spVFil_q, spVFil_A, spVFil_pre, spVFil_post, spVPath_q, spVPath_A, spVPath_pre, spVPath_post, spRings_q, spRings_A, spRings_pre, spRings_post, spVRings_q, spVRings_A, spVRings_pre, spVRings_post, spIn_q, spIn_A, spIn_pre, spIn_post, spVPnt_q, spVPnt_A, spVPnt_pre, spVPnt_post]
  repeat' first | apply And.intro | intro _ | omega | assumption | with_reducible rfl
  all_goals (first | ((have h1 := hpre.p; have h2 := hpre.n; have h3 := hpre.s; omega); done) | (exact (rings_tot2 ‹vPath f.p = true›).1) | (exact (rings_tot2 ‹vPath f.p = true›).2) | (simp [vFil, *]; done) | ((simp only [vFil, *]; simp); done) | ((simp only [vFil, isRl, *]; simp; omega); done) | (simp_all [vFil]; done) | (grind [vFil, isRl]; done))
theorem sat_spec_validFill : Sat Tryz.prog rt0 36 (wkIn spVFil) := sat_in (sat_out sat_spec_validFill_0)
def spNVFil_A : Fil → List AV
  | f => [.agg (flC f)]
def spNVFil_pre : Fil → Prop
  | f => okF f
def spNVFil_post : Fil → AV → List Box → Prop
  | f, r, bs => r = B (!vFil f) ∧ bs = []
def spNVFil : VE.Spec := famSpec spNVFil_A d_fl spNVFil_pre spNVFil_post 0 true
theorem spNVFil_q : SpQ spNVFil true [] false 0 (fun a i => i = [] ∧ famPre d_fl spNVFil_A spNVFil_pre a) (fun a i r b => famPost d_fl spNVFil_post a r b) := ⟨rfl, rfl, rfl, rfl, fun _ _ => rfl, fun _ _ _ _ => rfl⟩
def tb46 : Nat → Option VE.Spec := tabOf [(47, wkIn spVFil)]
theorem tb46_47 : tb46 47 = some (wkIn spVFil) := rfl
theorem tb46_ok : TabOK Tryz.prog rt0 tb46 := (tabOf_cons (by kernel_rfl) sat_impl_Fill_valid tabOf_nil)
set_option maxHeartbeats 4000000 in
theorem sat_impl_ValidScene_1_0 : Sat Tryz.prog rt0 46 (wkOut spNVFil) := by
  refine fn_sat hm ttok (tab := tb46) tb46_ok Tryz.func46 (c := Tryz.f46.body.getD .skip) (by kernel_rfl) (ts := [.tmp 2]) (by kernel_rfl) Tryz.ntmps46 (sq := fun _ => true) (by kernel_rfl) ?_
  intro args ins pk hpre0 hpk
  obtain ⟨rfl, hpre0⟩ := hpre0
  obtain ⟨f, rfl, hpre, hdec⟩ := famPre_ex hpre0
  clear hpre0 hdec
  try simp only [spNVFil_pre] at hpre
  replace hpk : pk + 0 ≤ pickLimit := hpk
  refine ⟨nle rfl, ?_⟩
  simp (maxSteps := 1000000) only [go_sem, Tryz.f46, tb46_47, spNVFil_q, spNVFil_A, spNVFil_pre, spNVFil_post, spVFil_q, spVFil_A, spVFil_pre, spVFil_post]
  repeat' first | apply And.intro | intro _ | omega | assumption | with_reducible rfl
theorem sat_impl_ValidScene_1 : Sat Tryz.prog rt0 46 (wkIn spNVFil) := sat_in (sat_out sat_impl_ValidScene_1_0)
section
def spIdxF_A : (List Fil) → List AV
  | l => [.c (.sl false (l.map flC)), .c (.fn 46 [])]
def spIdxF_pre : (List Fil) → Prop
  | l => okFs l
def spIdxF_post : (List Fil) → AV → List Box → Prop
  | l, r, bs => ∃ m, r = I m ∧ bs = [] ∧ decide (0 ≤ m) = (!l.all vFil)
def spIdxF : VE.Spec := famSpec spIdxF_A d_lfl_f46 spIdxF_pre spIdxF_post 0 true
theorem spIdxF_q : SpQ spIdxF true [] false 0 (fun a i => i = [] ∧ famPre d_lfl_f46 spIdxF_A spIdxF_pre a) (fun a i r b => famPost d_lfl_f46 spIdxF_post a r b) := ⟨rfl, rfl, rfl, rfl, fun _ _ => rfl, fun _ _ _ _ => rfl⟩
def tb74 : Nat → Option VE.Spec := tabOf [(46, wkIn spNVFil)]
theorem tb74_46 : tb74 46 = some (wkIn spNVFil) := rfl
theorem tb74_ok : TabOK Tryz.prog rt0 tb74 := (tabOf_cons (by kernel_rfl) sat_impl_ValidScene_1 tabOf_nil)
section
attribute [local go_sem] Tryz.f74 tb74_46 spIdxF_q spIdxF_A spIdxF_pre spIdxF_post spNVFil_q spNVFil_A spNVFil_pre spNVFil_post
set_option maxHeartbeats 4000000 in
theorem sat_slices_IndexFunc_impl_Fill_impl_Fill_0 : Sat Tryz.prog rt0 74 (wkOut spIdxF) := by
  refine fn_sat hm ttok (tab := tb74) tb74_ok Tryz.func74 (c := Tryz.f74.body.getD .skip) (by kernel_rfl) (ts := [.tmp 4]) (by kernel_rfl) Tryz.ntmps74 (sq := fun _ => true) (by kernel_rfl) ?_
  intro args ins pk hpre0 hpk
  obtain ⟨rfl, hpre0⟩ := hpre0
  obtain ⟨l, rfl, hpre, hdec⟩ := famPre_ex hpre0
  clear hpre0 hdec
  try simp only [spIdxF_pre] at hpre
  replace hpk : pk + 0 ≤ pickLimit := hpk
  refine ⟨nle rfl, ?_⟩
  simp (maxSteps := 1000000) only [go_sem]
  repeat' first | apply And.intro | intro _ | omega | assumption | with_reducible rfl
  refine loopS (α := Int) false [2, 3, 4, 5, 6, 8, 9, 10, 11, 12, 13, 14, 15, 16, 17, 18] (fun σ => []) (fun σ x => [(8, I x)]) (fun σ x => []) (fun i => 0) (fun σ => gI (σ.get 8)) (fun σ τ => []) (fun i => 0 ≤ i ∧ i ≤ l.length ∧ (l.take i.toNat).all vFil = true) (fun i => (l.length - i).toNat) ⟨by (simp (maxSteps := 1000000) only [go_sem]; (repeat' (first | apply And.intro | (intro hh; first | (have h9 := okFs_at hpre hh) | skip) | omega | assumption | with_reducible rfl))), ?_⟩
  rintro i hinv
  try dsimp only at hinv
  simp (maxSteps := 1000000) only [go_sem]
  have hpl := hpre.len
  repeat' (first | apply And.intro | (intro hh; first | (have h9 := okFs_at hpre hh) | skip) | omega | assumption | with_reducible rfl)
  all_goals (first | (exact okFs_at hpre ‹_›) | (grind [→ takeN, takeA, all_bad]; done))
end
theorem sat_slices_IndexFunc_impl_Fill_impl_Fill : Sat Tryz.prog rt0 74 (wkIn spIdxF) := sat_in (sat_out sat_slices_IndexFunc_impl_Fill_impl_Fill_0)
def spHasF_A : (List Fil) → List AV
  | l => [.c (.sl false (l.map flC)), .c (.fn 46 [])]
def spHasF_pre : (List Fil) → Prop
  | l => okFs l
def spHasF_post : (List Fil) → AV → List Box → Prop
  | l, r, bs => r = B (!l.all vFil) ∧ bs = []
def spHasF : VE.Spec := famSpec spHasF_A d_lfl_f46 spHasF_pre spHasF_post 0 true
theorem spHasF_q : SpQ spHasF true [] false 0 (fun a i => i = [] ∧ famPre d_lfl_f46 spHasF_A spHasF_pre a) (fun a i r b => famPost d_lfl_f46 spHasF_post a r b) := ⟨rfl, rfl, rfl, rfl, fun _ _ => rfl, fun _ _ _ _ => rfl⟩
def tb45 : Nat → Option VE.Spec := tabOf [(74, wkIn spIdxF)]
theorem tb45_74 : tb45 74 = some (wkIn spIdxF) := rfl
theorem tb45_ok : TabOK Tryz.prog rt0 tb45 := (tabOf_cons (by kernel_rfl) sat_slices_IndexFunc_impl_Fill_impl_Fill tabOf_nil)
set_option maxHeartbeats 4000000 in
theorem sat_slices_ContainsFunc_impl_Fill_impl_Fill_0 : Sat Tryz.prog rt0 45 (wkOut spHasF) := by
  refine fn_sat hm ttok (tab := tb45) tb45_ok Tryz.func45 (c := Tryz.f45.body.getD .skip) (by kernel_rfl) (ts := [.tmp 4]) (by kernel_rfl) Tryz.ntmps45 (sq := fun _ => true) (by kernel_rfl) ?_
  intro args ins pk hpre0 hpk
  obtain ⟨rfl, hpre0⟩ := hpre0
  obtain ⟨l, rfl, hpre, hdec⟩ := famPre_ex hpre0
  clear hpre0 hdec
  try simp only [spHasF_pre] at hpre
  replace hpk : pk + 0 ≤ pickLimit := hpk
  refine ⟨nle rfl, ?_⟩
  simp (maxSteps := 1000000) only [go_sem, Tryz.f45, tb45_74, spHasF_q, spHasF_A, spHasF_pre, spHasF_post, spIdxF_q, spIdxF_A, spIdxF_pre, spIdxF_post]
  repeat' first | apply And.intro | intro _ | omega | assumption | with_reducible rfl
  all_goals (first | (grind; done))
theorem sat_slices_ContainsFunc_impl_Fill_impl_Fill : Sat Tryz.prog rt0 45 (wkIn spHasF) := sat_in (sat_out sat_slices_ContainsFunc_impl_Fill_impl_Fill_0)
def spVScn_A : Scn → List AV
  | s => [.agg (scC s)]
def spVScn_pre : Scn → Prop
  | s => okFs s.fs
def spVScn_post : Scn → AV → List Box → Prop
  | s, r, bs => r = B (vScn s) ∧ bs = []
def spVScn : VE.Spec := famSpec spVScn_A d_sc spVScn_pre spVScn_post 0 true
theorem spVScn_q : SpQ spVScn true [] false 0 (fun a i => i = [] ∧ famPre d_sc spVScn_A spVScn_pre a) (fun a i r b => famPost d_sc spVScn_post a r b) := ⟨rfl, rfl, rfl, rfl, fun _ _ => rfl, fun _ _ _ _ => rfl⟩
def tb18 : Nat → Option VE.Spec := tabOf [(44, wkIn spSzd), (45, wkIn spHasF)]
theorem tb18_44 : tb18 44 = some (wkIn spSzd) := rfl
theorem tb18_45 : tb18 45 = some (wkIn spHasF) := rfl
theorem tb18_ok : TabOK Tryz.prog rt0 tb18 := (tabOf_cons (by kernel_rfl) sat_impl_sized (tabOf_cons (by kernel_rfl) sat_slices_ContainsFunc_impl_Fill_impl_Fill tabOf_nil))
set_option maxHeartbeats 4000000 in
theorem sat_impl_ValidScene_0 : Sat Tryz.prog rt0 18 (wkOut spVScn) := by
  refine fn_sat hm ttok (tab := tb18) tb18_ok Tryz.func18 (c := Tryz.f18.body.getD .skip) (by kernel_rfl) (ts := [.tmp 2]) (by kernel_rfl) Tryz.ntmps18 (sq := fun _ => true) (by kernel_rfl) ?_
  intro args ins pk hpre0 hpk
  obtain ⟨rfl, hpre0⟩ := hpre0
  obtain ⟨s, rfl, hpre, hdec⟩ := famPre_ex hpre0
  clear hpre0 hdec
  try simp only [spVScn_pre] at hpre
  replace hpk : pk + 0 ≤ pickLimit := hpk
  refine ⟨nle rfl, ?_⟩
  simp (maxSteps := 1000000) only [go_sem, Tryz.f18, tb18_44, tb18_45, spVScn_q, spVScn_A, spVScn_pre, spVScn_post, spSzd_q, spSzd_A, spSzd_pre, spSzd_post, spHasF_q, spHasF_A, spHasF_pre, spHasF_post]
  repeat' first | apply And.intro | intro _ | omega | assumption | with_reducible rfl
  all_goals (first | (exact hpre) | (simp [vScn, *]; done) | (grind [vScn]; done))
theorem sat_impl_ValidScene : Sat Tryz.prog rt0 18 (wkIn spVScn) := sat_in (sat_out sat_impl_ValidScene_0)
theorem all_end {l : List Fil} {i : Int} (h : ¬ i < (l.length : Int)) (h2 : (l.take i.toNat).all vFil = true) : l.all vFil = true := by rwa [takeA (by omega)] at h2
def tb24 : Nat → Option VE.Spec := tabOf [(36, wkIn spVFil), (55, wkIn spSzd)]
theorem tb24_36 : tb24 36 = some (wkIn spVFil) := rfl
theorem tb24_55 : tb24 55 = some (wkIn spSzd) := rfl
theorem tb24_ok : TabOK Tryz.prog rt0 tb24 := (tabOf_cons (by kernel_rfl) sat_spec_validFill (tabOf_cons (by kernel_rfl) sat_spec_validSize tabOf_nil))
section
attribute [local go_sem] Tryz.f24 tb24_36 tb24_55 spVScn_q spVScn_A spVScn_pre spVScn_post spVFil_q spVFil_A spVFil_pre spVFil_post spSzd_q spSzd_A spSzd_pre spSzd_post
set_option maxHeartbeats 4000000 in
theorem sat_spec_validScene_0 : Sat Tryz.prog rt0 24 (wkOut spVScn) := by
  refine fn_sat hm ttok (tab := tb24) tb24_ok Tryz.func24 (c := Tryz.f24.body.getD .skip) (by kernel_rfl) (ts := [.tmp 2]) (by kernel_rfl) Tryz.ntmps24 (sq := fun _ => true) (by kernel_rfl) ?_
  intro args ins pk hpre0 hpk
  obtain ⟨rfl, hpre0⟩ := hpre0
  obtain ⟨s, rfl, hpre, hdec⟩ := famPre_ex hpre0
  clear hpre0 hdec
  try simp only [spVScn_pre] at hpre
  replace hpk : pk + 0 ≤ pickLimit := hpk
  refine ⟨nle rfl, ?_⟩
  simp (maxSteps := 1000000) only [go_sem]
  repeat' first | apply And.intro | intro _ | omega | assumption | with_reducible rfl
  refine loopS (α := Int) false [0, 2, 3, 4, 5, 6, 7, 8, 9, 10, 11, 12, 13, 14, 15, 16, 17] (fun σ => []) (fun σ x => [(3, I x)]) (fun σ x => []) (fun i => 0) (fun σ => gI (σ.get 3)) (fun σ τ => []) (fun i => 0 ≤ i ∧ i ≤ s.fs.length ∧ (s.fs.take i.toNat).all vFil = true) (fun i => (s.fs.length - i).toNat) ⟨by (simp (maxSteps := 1000000) only [go_sem]; (repeat' first | apply And.intro | intro _ | omega | assumption | with_reducible rfl)), ?_⟩
  rintro i hinv
  try dsimp only at hinv
  rcases elemAt s.fs i (by omega) with ⟨hlt, f, hk⟩ | hlt
  all_goals (first | ((have hlt2 := of_eq_true hlt); (have hf := okFs_at hpre hk); (have hpl := hpre.len); all_goals simp (maxSteps := 1000000) only [go_sem, hlt, hk]) | (have hlt2 := of_eq_false hlt; simp (maxSteps := 1000000) only [go_sem, hlt]))
  all_goals
    repeat' first | apply And.intro | intro _ | omega | assumption | with_reducible rfl
  all_goals (first | ((have hpl := hpre.len; omega); done) | (exact okFs_at hpre ‹_›) | ((rw [takeN hk hinv.1, List.all_append, hinv.2.2]; simp [*]); done) | ((have h9 := all_bad hk ‹vFil f = false›; simp [vScn, h9]); done) | ((have h9 := all_end hlt2 hinv.2.2; simp [vScn, *]); done) | (grind [vScn, → takeN, takeA, all_bad]; done))
end
theorem sat_spec_validScene : Sat Tryz.prog rt0 24 (wkIn spVScn) := sat_in (sat_out sat_spec_validScene_0)
end
end Go.Proofs.YtcejoknapbhloaaGreat
