/- Contracts of functions of the program vectorraster, each proved for all states that fit its description. No conditions. -/
import Derived.Test.YthphndhiacikaaaGreatDoorKS
import Derived.Test.YthphndhiacikaaaGreatDoorEG
import Derived.Test.YthphndhiacikaaaGreatDoorPQ
import Derived.Test.YthphndhiacikaaaGreatDoorPF
set_option linter.unusedSimpArgs false
set_option linter.unusedVariables false
set_option maxRecDepth 100000
namespace Go.Proofs.YthphndhiacikaaaGreatDoor
open Go Go.VE
section
section
attribute [local go_sem] Tryz.f144
set_option maxHeartbeats 4000000 in
theorem iter_144 : IterOK Tryz.prog 144 true 7 := by
  refine iter_of (tab := tabOf []) ttok tabOf_nil Tryz.func144 (by kernel_rfl) (r0 := 0) (r1 := 1) (r2 := 2) (r3 := 3) (b0 := 0) (b1 := 1) (L0 := (rOps (Tryz.f144.body.getD .skip) 0)) (L1 := (rOps (Tryz.f144.body.getD .skip) 1)) (L2 := (rOps (Tryz.f144.body.getD .skip) 2)) (L3 := (rOps (Tryz.f144.body.getD .skip) 3)) (A0 := (rOps (Tryz.f144.body.getD .skip) 0).take 3) (A2 := (rOps (Tryz.f144.body.getD .skip) 2).take 2) (A3 := (rOps (Tryz.f144.body.getD .skip) 3).take 6)
    (o0 := (rOps (Tryz.f144.body.getD .skip) 0).getD 3 default) (o2 := (rOps (Tryz.f144.body.getD .skip) 2).getD 2 default) (oy := (rOps (Tryz.f144.body.getD .skip) 3).getD 6 default) (on := (rOps (Tryz.f144.body.getD .skip) 3).getD 7 default) (by kernel_rfl) (by kernel_rfl) Tryz.ntmps144 (by kernel_rfl) (by kernel_rfl) (by kernel_rfl) (by kernel_rfl) ⟨by kernel_rfl, by kernel_rfl, by kernel_rfl⟩ ⟨by kernel_rfl, by kernel_rfl, by kernel_rfl⟩ ⟨by kernel_rfl, by kernel_rfl, #[3, 129], by kernel_rfl⟩ ?_ ?_ ?_ ?_ ?_
  · intro Y t es hl
    unfold maxLen at hl
    simp (maxSteps := 1000000) only [go_sem, rOps, itSt, itS0, itB, List.take_succ_cons, List.take_zero, Option.getD_some, cond_true, cond_false, List.append_nil, List.nil_append, List.drop_succ_cons, List.drop_zero, List.getD_cons_succ, List.getD_cons_zero, List.append_assoc, List.cons_append]
    all_goals (repeat' first | apply And.intro | intro _ | omega | assumption | with_reducible rfl)
    all_goals skip
  · intro Y t es k
    skip
    simp (maxSteps := 1000000) only [go_sem, rOps, itSt, itS0, itB, List.take_succ_cons, List.take_zero, Option.getD_some, cond_true, cond_false, List.append_nil, List.nil_append, List.drop_succ_cons, List.drop_zero, List.getD_cons_succ, List.getD_cons_zero, List.append_assoc, List.cons_append]
    all_goals (repeat' first | apply And.intro | intro _ | omega | assumption | with_reducible rfl)
    all_goals skip
  · intro k b h0 h1
    unfold maxLen at h1
    simp (maxSteps := 1000000) only [go_sem, rOps, itSt, itS0, itB, List.take_succ_cons, List.take_zero, Option.getD_some, cond_true, cond_false, List.append_nil, List.nil_append, List.drop_succ_cons, List.drop_zero, List.getD_cons_succ, List.getD_cons_zero, List.append_assoc, List.cons_append]
    all_goals (repeat' first | apply And.intro | intro _ | omega | assumption | with_reducible rfl)
    all_goals skip
  · intro Y t es k e hk hl
    (have hkl := (List.getElem?_eq_some_iff.1 hk).1; have hke := hl e (List.mem_of_getElem? hk))
    simp (maxSteps := 1000000) only [go_sem, rOps, itSt, itS0, itB, List.take_succ_cons, List.take_zero, Option.getD_some, cond_true, cond_false, List.append_nil, List.nil_append, List.drop_succ_cons, List.drop_zero, List.getD_cons_succ, List.getD_cons_zero, List.append_assoc, List.cons_append]
    all_goals (repeat' first | apply And.intro | intro _ | omega | assumption | with_reducible rfl)
    all_goals (first | omega | exact hl _ (by assumption) | (rename_i h9; have h8 := Option.some.inj (hk.symm.trans h9); subst h8; first | omega | exact List.take_of_length_le (by omega)))
  · intro k b
    skip
    simp (maxSteps := 1000000) only [go_sem, rOps, itSt, itS0, itB, List.take_succ_cons, List.take_zero, Option.getD_some, cond_true, cond_false, List.append_nil, List.nil_append, List.drop_succ_cons, List.drop_zero, List.getD_cons_succ, List.getD_cons_zero, List.append_assoc, List.cons_append]
    all_goals (repeat' first | apply And.intro | intro _ | omega | assumption | with_reducible rfl)
    all_goals skip
end
def spBkF_A : (List Fil) → List AV
  | l => [.c (.sl false (l.map flC))]
def spBkF_pre : (List Fil) → Prop
  | l => l.length ≤ 1000000
def spBkF_post : (List Fil) → AV → List Box → Prop
  | l, r, bs => r = .c (.fn 144 [.rp [.sl false (l.map flC)]]) ∧ bs = []
def spBkF : VE.Spec := famSpecS spBkF_A d_lfl spBkF_pre spBkF_post 0 false
theorem spBkF_q : SpQ spBkF false [] true 0 (fun a i => i = [] ∧ famPre d_lfl spBkF_A spBkF_pre a) (fun a i r b => famPost d_lfl spBkF_post a r b) := ⟨rfl, rfl, rfl, rfl, fun _ _ => rfl, fun _ _ _ _ => rfl⟩
def tb107 : Nat → Option VE.Spec := tabOf []
theorem tb107_ok : TabOK Tryz.prog rt0 tb107 := tabOf_nil
set_option maxHeartbeats 4000000 in
theorem sat_slices_Backward_impl_Fill_impl_Fill_0 : Sat Tryz.prog rt0 107 (wkOut spBkF) := by
  refine fn_sat hm ttok (tab := tb107) tb107_ok Tryz.func107 (c := Tryz.f107.body.getD .skip) (by kernel_rfl) (ts := [.tmp 2]) (by kernel_rfl) Tryz.ntmps107 (sq := fun _ => true) (by kernel_rfl) ?_
  intro args ins pk hpre0 hpk
  obtain ⟨rfl, hpre0⟩ := hpre0
  obtain ⟨l, rfl, hpre, hdec⟩ := famPre_ex hpre0
  clear hpre0 hdec
  try simp only [spBkF_pre] at hpre
  replace hpk : pk + 0 ≤ pickLimit := hpk
  refine ⟨nle rfl, ?_⟩
  simp (maxSteps := 1000000) only [go_sem, Tryz.f107, spBkF_q, spBkF_A, spBkF_pre, spBkF_post]
  repeat' first | apply And.intro | intro _ | omega | assumption | with_reducible rfl
  all_goals (first | ((simp_all; done); done))
theorem sat_slices_Backward_impl_Fill_impl_Fill : Sat Tryz.prog rt0 107 (wkIn spBkF) := sat_in (sat_out sat_slices_Backward_impl_Fill_impl_Fill_0)
end
def insF (f : Fil) (x y : Int) : Bool := insN (wind (ringsOf f.p) x y) f.rl
/-- The last of the first n fills that has the point. -/
def topN (fs : List Fil) (x y : Int) : Nat → Int
  | 0 => -1
  | n + 1 => match fs[n]? with
    | some f => if insF f x y = true then n else topN fs x y n
    | none => topN fs x y n
def topF (s : Scn) (p : Pt) : Int := if (vScn s && vPt p) = true then topN s.fs p.x p.y s.fs.length else -1
theorem topN_yes {fs : List Fil} {x y : Int} {n : Nat} {f : Fil} (h : fs[n]? = some f) (hi : insF f x y = true) : topN fs x y (n + 1) = n := by
  simp only [topN, h, hi, if_true]
theorem topN_no {fs : List Fil} {x y : Int} {n : Nat} {f : Fil} (h : fs[n]? = some f) (hi : insF f x y = false) : topN fs x y (n + 1) = topN fs x y n := by
  simp only [topN, h, hi]; rfl
theorem topF_in {s : Scn} {p : Pt} (h : vScn s = true) (h2 : (!vPt p) = false) : topF s p = topN s.fs p.x p.y s.fs.length := by
  rw [topF, if_pos]; simp only [Bool.and_eq_true]; exact ⟨h, by simpa using h2⟩
theorem topF_in2 {s : Scn} {p : Pt} (h : vScn s = true) (h2 : vPt p = true) : topF s p = topN s.fs p.x p.y s.fs.length := topF_in h (by simpa using h2)
theorem topF_no1 {s : Scn} {p : Pt} (h : vScn s = false) : topF s p = -1 := by rw [topF, if_neg]; simp [h]
theorem topF_no2 {s : Scn} {p : Pt} (h : vPt p = false) : topF s p = -1 := by rw [topF, if_neg]; simp [h]
theorem vScn_at {s : Scn} {n : Nat} {f : Fil} (h : vScn s = true) (hf : s.fs[n]? = some f) : vFil f = true := by
  simp only [vScn, Bool.and_eq_true, List.all_eq_true] at h
  exact h.2 f (List.mem_of_getElem? hf)
theorem vFil_path {f : Fil} (h : vFil f = true) : vPath f.p = true ∧ vRings (ringsOf f.p) = true ∧ isRl f.rl = true := by
  simp only [vFil, Bool.and_eq_true] at h
  exact ⟨h.1.1.1, h.1.1.2, h.1.2⟩
theorem vPt_xy {p : Pt} (h : vPt p = true) : (-1000 ≤ p.x ∧ p.x ≤ 1000) ∧ -1000 ≤ p.y ∧ p.y ≤ 1000 := by
  simp only [vPt, isU, Bool.and_eq_true, decide_eq_true_eq] at h
  exact h
def spTop_A : Scn × Pt → List AV
  | (s, p) => [.agg (scC s), .agg (ptC p)]
def spTop_pre : Scn × Pt → Prop
  | (s, p) => okFs s.fs
def spTop_post : Scn × Pt → AV → List Box → Prop
  | (s, p), r, bs => r = I (topF s p) ∧ bs = []
def spTop : VE.Spec := famSpec spTop_A d_sc_pt spTop_pre spTop_post 0 true
theorem spTop_q : SpQ spTop true [] false 0 (fun a i => i = [] ∧ famPre d_sc_pt spTop_A spTop_pre a) (fun a i r b => famPost d_sc_pt spTop_post a r b) := ⟨rfl, rfl, rfl, rfl, fun _ _ => rfl, fun _ _ _ _ => rfl⟩
section
def tb74 : Nat → Option VE.Spec := tabOf [(101, wkIn spVScn), (64, wkIn spVPt), (107, wkIn spBkF), (106, wkIn spRings), (109, wkIn spWind), (108, wkIn spIns)]
theorem tb74_101 : tb74 101 = some (wkIn spVScn) := rfl
theorem tb74_64 : tb74 64 = some (wkIn spVPt) := rfl
theorem tb74_107 : tb74 107 = some (wkIn spBkF) := rfl
theorem tb74_106 : tb74 106 = some (wkIn spRings) := rfl
theorem tb74_109 : tb74 109 = some (wkIn spWind) := rfl
theorem tb74_108 : tb74 108 = some (wkIn spIns) := rfl
theorem tb74_ok : TabOK Tryz.prog rt0 tb74 := (tabOf_cons (by kernel_rfl) sat_impl_ValidScene (tabOf_cons (by kernel_rfl) sat_impl_Point_valid (tabOf_cons (by kernel_rfl) sat_slices_Backward_impl_Fill_impl_Fill (tabOf_cons (by kernel_rfl) sat_impl_rings (tabOf_cons (by kernel_rfl) sat_impl_winding (tabOf_cons (by kernel_rfl) sat_impl_inside tabOf_nil))))))
@[go_sem] def sat_impl_TopFip1 : VE.Plan := pF 0 (pF 1 (pF 3 (pF 4 (pF 5 (pF 6 (pF 8 (pF 9 (pA 2 (pA 7 (pA 10 pN pN) pN) pN))))))))
section
attribute [local go_sem] Tryz.f74 tb74_101 tb74_64 tb74_107 tb74_106 tb74_109 tb74_108 spTop_q spTop_A spTop_pre spTop_post spVScn_q spVScn_A spVScn_pre spVScn_post spVPt_q spVPt_A spVPt_pre spVPt_post spBkF_q spBkF_A spBkF_pre spBkF_post spRings_q spRings_A spRings_pre spRings_post spWind_q spWind_A spWind_pre spWind_post spIns_q spIns_A spIns_pre spIns_post
set_option maxHeartbeats 4000000 in
theorem sat_impl_TopFill_0 : Sat Tryz.prog rt0 74 (wkOut spTop) := by
  refine fn_satR hm ttok (tab := tb74) tb74_ok (it := itOne 144 true 7) (itOne_ok iter_144) Tryz.func74 (c := Tryz.f74.body.getD .skip) (by kernel_rfl) (ts := [.cell 4 3]) (by kernel_rfl) Tryz.ntmps74 (sq := fun id => !(id == 6)) (by kernel_rfl) ?_
  intro args ins pk hpre0 hpk
  obtain ⟨rfl, hpre0⟩ := hpre0
  obtain ⟨⟨s, p⟩, rfl, hpre, hdec⟩ := famPre_ex hpre0
  clear hpre0 hdec
  try simp only [spTop_pre] at hpre
  replace hpk : pk + 0 ≤ pickLimit := hpk
  refine ⟨nle rfl, ?_⟩
  simp (maxSteps := 1000000) only [go_sem]
  repeat' first | apply And.intro | intro _ | omega | assumption | with_reducible rfl
  all_goals try (refine drawI sat_impl_TopFip1 (by decide +kernel) ?_; simp (maxSteps := 1000000) only [go_sem, planW, stepW, Go.VE.stepT, Go.VE.clearO]; repeat' first | apply And.intro | intro _ | omega | assumption | with_reducible rfl)
  all_goals try (exact hpre)
  all_goals try (have h9 := hpre.len; omega)
  any_goals
    refine rfS s.fs flC (α := Unit) true 7 false [5, 6, 7, 8, 9, 10, 11, 12, 13, 14, 15, 16, 17, 18, 19, 20, 21, 22, 23, 24, 25, 26, 27, 28, 29, 30, 31] (fun _ => []) (fun _ _ => []) (fun _ => 0) (fun _ => ()) (fun _ _ => []) (fun n _ => topN s.fs p.x p.y n = topN s.fs p.x p.y s.fs.length) (by rfl) flC_len (by rfl) (by kernel_rfl) (by simp (maxSteps := 1000000) only [go_sem]; repeat' first | apply And.intro | intro _ | omega | assumption | with_reducible rfl) ⟨rfl, by simp (maxSteps := 1000000) only [go_sem]; repeat' first | apply And.intro | intro _ | omega | assumption | with_reducible rfl⟩ ?_ ?_
    · intro k u f hk hinv
      have hf := vScn_at ‹vScn s = true› hk
      have hq := vFil_path hf
      have hpt := vPt_xy (p := p) (by simpa using ‹(!vPt p) = false›)
      have hT := rings_tot2 hq.1
      have hW := wind_bd hq.2.1 p.x p.y
      simp (maxSteps := 1000000) only [go_sem]
      repeat' first | apply And.intro | intro _ | omega | assumption | with_reducible rfl
      all_goals try (refine drawI sat_impl_TopFip1 (by decide +kernel) ?_; simp (maxSteps := 1000000) only [go_sem, planW, stepW, Go.VE.stepT, Go.VE.clearO]; repeat' first | apply And.intro | intro _ | omega | assumption | with_reducible rfl)
      all_goals (first | (exact hq.1) | (exact hq.2.1) | ((rw [topF_in ‹vScn s = true› ‹(!vPt p) = false›, ← hinv, topN_yes hk ‹_›]); done) | ((rw [← hinv, topN_no hk ‹_›]); done) | ((rw [topF_in ‹vScn s = true› ‹(!vPt p) = false›, ← hinv]; rfl); done))
    · intro u hinv
      simp (maxSteps := 1000000) only [go_sem]
      repeat' first | apply And.intro | intro _ | omega | assumption | with_reducible rfl
      all_goals (first | (exact hq.1) | (exact hq.2.1) | ((rw [topF_in ‹vScn s = true› ‹(!vPt p) = false›, ← hinv, topN_yes hk ‹_›]); done) | ((rw [← hinv, topN_no hk ‹_›]); done) | ((rw [topF_in ‹vScn s = true› ‹(!vPt p) = false›, ← hinv]; rfl); done))
  all_goals (first | (exact (topF_no1 ‹_›).symm) | (exact (topF_no2 ‹_›).symm))
end
theorem sat_impl_TopFill : Sat Tryz.prog rt0 74 (wkIn spTop) := sat_in (sat_out sat_impl_TopFill_0)
end
section
def tb152 : Nat → Option VE.Spec := tabOf [(110, wkIn spVScn), (92, wkIn spVPt), (170, wkIn spRings), (179, wkIn spWind), (178, wkIn spIns)]
theorem tb152_110 : tb152 110 = some (wkIn spVScn) := rfl
theorem tb152_92 : tb152 92 = some (wkIn spVPt) := rfl
theorem tb152_170 : tb152 170 = some (wkIn spRings) := rfl
theorem tb152_179 : tb152 179 = some (wkIn spWind) := rfl
theorem tb152_178 : tb152 178 = some (wkIn spIns) := rfl
theorem tb152_ok : TabOK Tryz.prog rt0 tb152 := (tabOf_cons (by kernel_rfl) sat_spec_validScene (tabOf_cons (by kernel_rfl) sat_spec_validPoint (tabOf_cons (by kernel_rfl) sat_spec_rings (tabOf_cons (by kernel_rfl) sat_spec_winding (tabOf_cons (by kernel_rfl) sat_spec_inside tabOf_nil)))))
@[go_sem] def sat_spec_TopFip1 : VE.Plan := pF 0 (pF 1 (pF 2 (pF 3 (pF 4 (pF 5 (pF 7 (pF 8 (pF 9 (pF 10 (pF 12 (pF 13 (pF 14 (pF 15 (pF 16 (pF 17 (pA 6 (pA 11 (pA 18 pN pN) pN) pN))))))))))))))))
section
attribute [local go_sem] Tryz.f152 tb152_110 tb152_92 tb152_170 tb152_179 tb152_178 spTop_q spTop_A spTop_pre spTop_post spVScn_q spVScn_A spVScn_pre spVScn_post spVPt_q spVPt_A spVPt_pre spVPt_post spRings_q spRings_A spRings_pre spRings_post spWind_q spWind_A spWind_pre spWind_post spIns_q spIns_A spIns_pre spIns_post
set_option maxHeartbeats 4000000 in
theorem sat_spec_TopFill_0 : Sat Tryz.prog rt0 152 (wkOut spTop) := by
  refine fn_sat hm ttok (tab := tb152) tb152_ok Tryz.func152 (c := Tryz.f152.body.getD .skip) (by kernel_rfl) (ts := [.tmp 4]) (by kernel_rfl) Tryz.ntmps152 (sq := fun id => !(id == 6)) (by kernel_rfl) ?_
  intro args ins pk hpre0 hpk
  obtain ⟨rfl, hpre0⟩ := hpre0
  obtain ⟨⟨s, p⟩, rfl, hpre, hdec⟩ := famPre_ex hpre0
  clear hpre0 hdec
  try simp only [spTop_pre] at hpre
  replace hpk : pk + 0 ≤ pickLimit := hpk
  refine ⟨nle rfl, ?_⟩
  have hpl := hpre.len
  simp (maxSteps := 1000000) only [go_sem]
  repeat' first | apply And.intro | intro _ | omega | assumption | with_reducible rfl
  all_goals try (refine drawI sat_spec_TopFip1 (by decide +kernel) ?_; simp (maxSteps := 1000000) only [go_sem, planW, stepW, Go.VE.stepT, Go.VE.clearO]; repeat' first | apply And.intro | intro _ | omega | assumption | with_reducible rfl)
  all_goals try (exact hpre)
  all_goals try (have h9 := hpre.len; omega)
  any_goals
    refine loopS (α := Int) false [0, 1, 4, 5, 6, 7, 8, 9, 10, 11, 12, 13, 14, 15, 16, 17, 18, 19, 20, 21, 22, 23, 24, 25, 26, 27, 28, 29, 30, 31, 32, 33, 34, 35, 36, 37, 38, 39, 40, 41] (fun σ => []) (fun σ x => [(5, I x)]) (fun σ x => []) (fun i => 0) (fun σ => gI (σ.get 5)) (fun σ τ => []) (fun i => (-1 ≤ i ∧ i < s.fs.length) ∧ topN s.fs p.x p.y (i + 1).toNat = topN s.fs p.x p.y s.fs.length) (fun i => (i + 1).toNat) ⟨by (simp (maxSteps := 1000000) only [go_sem]; (repeat' first | apply And.intro | intro _ | omega | assumption | with_reducible rfl); all_goals (first | omega | (congr 1; omega))), ?_⟩
    rintro i hinv
    try dsimp only at hinv
    simp (maxSteps := 1000000) only [go_sem]
    repeat' first | apply And.intro | intro _ | omega | assumption | with_reducible rfl
    all_goals try (refine drawI sat_spec_TopFip1 (by decide +kernel) ?_; simp (maxSteps := 1000000) only [go_sem, planW, stepW, Go.VE.stepT, Go.VE.clearO]; repeat' first | apply And.intro | intro _ | omega | assumption | with_reducible rfl)
  
  all_goals try (rename_i k1 h1 k2 h2; obtain rfl := Option.some.inj (h1.symm.trans h2); have hf := vScn_at ‹vScn s = true› h1; have hq := vFil_path hf; have hpt := vPt_xy ‹vPt p = true›; have hT := rings_tot2 hq.1; have hW := wind_bd hq.2.1 p.x p.y; first | exact hq.1 | exact hq.2.1 | omega)
  all_goals try (rename_i k1 h1 k2 h2 h3; obtain rfl := Option.some.inj (h1.symm.trans h2); have e1 : (i + 1).toNat = i.toNat + 1 := (by omega); have e2 : (i - 1 + 1).toNat = i.toNat := (by omega); first | omega | (rw [topF_in2 ‹vScn s = true› ‹vPt p = true›, ← hinv.2, e1, topN_yes h1 h3]; omega) | (rw [e2, ← hinv.2, e1, topN_no h1 h3]))
  all_goals try (rw [topF_in2 ‹vScn s = true› ‹vPt p = true›, ← hinv.2, show (i + 1).toNat = 0 by omega]; rfl)
  all_goals (first | (exact (topF_no1 ‹_›).symm) | (exact (topF_no2 ‹_›).symm) | omega)
end
theorem sat_spec_TopFill : Sat Tryz.prog rt0 152 (wkIn spTop) := sat_in (sat_out sat_spec_TopFill_0)
end
end Go.Proofs.YthphndhiacikaaaGreatDoor
