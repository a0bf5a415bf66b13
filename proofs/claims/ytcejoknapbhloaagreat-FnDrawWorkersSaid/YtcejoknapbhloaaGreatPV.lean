/- Contracts of functions of the program vectorraster, each proved for all states that fit its description. No conditions. -/
import Derived.Test.YtcejoknapbhloaaGreatPU
import Derived.Test.YtcejoknapbhloaaGreatKT
import Derived.Test.YtcejoknapbhloaaGreatPJ
import Derived.Test.YtcejoknapbhloaaGreatPT
import Derived.Test.YtcejoknapbhloaaGreatPA
import Derived.Test.YtcejoknapbhloaaGreatPQ
set_option linter.unusedSimpArgs false
set_option linter.unusedVariables false
set_option maxRecDepth 100000
namespace Go.Proofs.YtcejoknapbhloaaGreat
open Go Go.VE
/-- A place of a picture lies in a tile's part that is drawn so far: rows above R, and of row R the columns before C. -/
def inStg (b : Bx) (w R C : Int) (i : Nat) : Prop := b.l ≤ (i : Int) % w ∧ (i : Int) % w < b.r ∧ b.t ≤ (i : Int) / w ∧ ((i : Int) / w < R ∨ (i : Int) / w = R ∧ (i : Int) % w < C)
instance (b : Bx) (w R C : Int) (i : Nat) : Decidable (inStg b w R C i) := by unfold inStg; infer_instance
def stg (fs : List Fil) (w : Int) (b : Bx) (px : List Colr) (R C : Int) : List Colr := px.mapIdx fun i c => if inStg b w R C i then pixF fs ((i : Int) % w) ((i : Int) / w) else c
theorem stg_len (fs : List Fil) (w : Int) (b : Bx) (px : List Colr) (R C : Int) : (stg fs w b px R C).length = px.length := List.length_mapIdx
theorem stg_get (fs : List Fil) (w : Int) (b : Bx) (px : List Colr) (R C : Int) (i : Nat) : (stg fs w b px R C)[i]? = px[i]?.map fun c => if inStg b w R C i then pixF fs ((i : Int) % w) ((i : Int) / w) else c := by
  rw [stg, List.getElem?_mapIdx]
theorem stg_congr {fs : List Fil} {w : Int} {b : Bx} {px : List Colr} {R C R' C' : Int} (h : ∀ i : Nat, i < px.length → (inStg b w R C i ↔ inStg b w R' C' i)) : stg fs w b px R C = stg fs w b px R' C' := by
  refine List.ext_getElem? fun i => ?_
  rw [stg_get, stg_get]
  cases hp : px[i]? with
  | none => rfl
  | some c =>
    have hl := (List.getElem?_eq_some_iff.1 hp).1
    simp only [Option.map_some, Option.some.injEq, h i hl]
theorem stg_0 (fs : List Fil) (w : Int) (b : Bx) (px : List Colr) : stg fs w b px b.t b.l = px := by
  refine List.ext_getElem? fun i => ?_
  rw [stg_get]
  cases hp : px[i]? with
  | none => rfl
  | some c =>
    have hn : ¬ inStg b w b.t b.l i := by unfold inStg; omega
    simp only [Option.map_some, if_neg hn]
theorem stg_row (fs : List Fil) (w : Int) (b : Bx) (px : List Colr) {R : Int} : stg fs w b px R b.r = stg fs w b px (R + 1) b.l := by
  refine stg_congr fun i _ => ?_
  unfold inStg
  constructor <;> (intro h; omega)
theorem at_place {w R C : Int} {i : Nat} (hw : 0 < w) (h0 : 0 ≤ C) (h1 : C < w) (hR : 0 ≤ R) : (i : Int) = R * w + C ↔ (i : Int) / w = R ∧ (i : Int) % w = C := by
  constructor
  · intro h
    rw [h, Int.add_comm, Int.add_mul_ediv_right _ _ (by omega), Int.ediv_eq_zero_of_lt h0 h1, Int.add_mul_emod_self_right, Int.emod_eq_of_lt h0 h1]
    omega
  · rintro ⟨h2, h3⟩
    have := Int.mul_ediv_add_emod (i : Int) w
    rw [h2, h3, Int.mul_comm] at this
    omega
theorem stg_step {fs : List Fil} {w : Int} {b : Bx} {px : List Colr} {R C : Int} (hw : 0 < w) (hC : b.l ≤ C ∧ C < b.r) (hl : 0 ≤ b.l) (hr : b.r ≤ w) (ht : 0 ≤ b.t ∧ b.t ≤ R) : (stg fs w b px R C).set (R * w + C).toNat (pixF fs C R) = stg fs w b px R (C + 1) := by
  have hn : 0 ≤ R * w := Int.mul_nonneg (by omega) (by omega)
  refine List.ext_getElem? fun i => ?_
  rw [List.getElem?_set, stg_len, stg_get, stg_get]
  have hp := at_place (i := i) hw (R := R) (C := C) (by omega) (by omega) (by omega)
  by_cases hi : (R * w + C).toNat = i
  · rw [if_pos hi]
    have h1 := hp.1 (by omega)
    by_cases hlt : i < px.length
    · rw [if_pos (by omega), List.getElem?_eq_getElem hlt, Option.map_some]
      have hin : inStg b w R (C + 1) i := by unfold inStg; omega
      rw [if_pos hin, h1.1, h1.2]
    · rw [if_neg (by omega), List.getElem?_eq_none (by omega)]; rfl
  · rw [if_neg hi]
    have h1 : ¬ ((i : Int) / w = R ∧ (i : Int) % w = C) := fun h => hi (by have := hp.2 h; omega)
    have he : inStg b w R C i ↔ inStg b w R (C + 1) i := by unfold inStg; constructor <;> (intro h; omega)
    simp only [he]
def tbV (w h t : Int) : Bx := if isT w h t = true then tbox w h t else ⟨0, 0, 0, 0⟩
def tileP (s : Scn) (px : List Colr) (t : Int) : List Colr := stg s.fs s.w (tbV s.w s.h t) px (tbV s.w s.h t).b (tbV s.w s.h t).l
theorem tbV_bd {w h : Int} (hz : szd w h = true) (t : Int) : (0 ≤ (tbV w h t).l ∧ (tbV w h t).l ≤ (tbV w h t).r ∧ (tbV w h t).r ≤ w) ∧ 0 ≤ (tbV w h t).t ∧ (tbV w h t).t ≤ (tbV w h t).b ∧ (tbV w h t).b ≤ h := by
  have hr := szd_r hz
  unfold tbV
  split
  · rename_i ht
    obtain ⟨f1, f2, f3, f4, f5, f6, f7, f8, f9, f10⟩ := isT_facts ht
    simp only [tbox]
    unfold acr at *
    omega
  · dsimp only; omega
theorem tileP_len (s : Scn) (px : List Colr) (t : Int) : (tileP s px t).length = px.length := stg_len _ _ _ _ _ _
theorem idx_lt {w h R C : Int} (hR : 0 ≤ R ∧ R < h) (hC : 0 ≤ C ∧ C < w) : 0 ≤ R * w + C ∧ R * w + C < w * h := by
  have h1 : 0 ≤ R * w := Int.mul_nonneg hR.1 (by omega)
  have h2 : (R + 1) * w ≤ h * w := Int.mul_le_mul_of_nonneg_right (by omega) (by omega)
  rw [Int.add_mul, Int.one_mul, Int.mul_comm h w] at h2
  omega
def spFD_A : Int × Int × List Colr × Scn × Int → List AV
  | (fw, fh, px, s, t) => [.agg [C.v (.int .i64 fw), C.v (.int .i64 fh), C.own 0 px.length false], .agg (scC s), I t]
def spFD_B : Int × Int × List Colr × Scn × Int → List Box
  | (fw, fh, px, s, t) => [⟨px.map coC, 4, 66, true, false⟩]
def spFD_d : List AV → List Box → Option (Int × Int × List Colr × Scn × Int)
  | [.agg [.v (.int .i64 fw), .v (.int .i64 fh), .own 0 _ false], .agg c, .c (.v (.int .i64 t))], [⟨es, _, _, _, _⟩] => match decAll coCd es, scCd c with
    | some px, some s => some (fw, fh, px, s, t)
    | _, _ => none
  | _, _ => none
def spFD_pre : Int × Int × List Colr × Scn × Int → Prop
  | (fw, fh, px, s, t) => okFs s.fs ∧ vScn s = true ∧ fw = s.w ∧ (px.length : Int) = s.w * s.h
def spFD_post : Int × Int × List Colr × Scn × Int → AV → List Box → Prop
  | (fw, fh, px, s, t), r, bs => r = B (isT s.w s.h t) ∧ bs = [⟨(tileP s px t).map coC, 4, 66, true, false⟩]
def spFD : VE.Spec := famSpecM spFD_A spFD_B spFD_d spFD_pre spFD_post 0 false [true] false
theorem spFD_q : SpQ spFD false [true] false 0 (fun a i => famPreM spFD_d spFD_A spFD_B spFD_pre a i) (fun a i r b => famPostM spFD_d spFD_post a i r b) := ⟨rfl, rfl, rfl, rfl, fun _ _ => rfl, fun _ _ _ _ => rfl⟩
theorem co_set (o : List Colr) (n : Nat) (k : Colr) : (List.map coC o).set n (coC k) = List.map coC (o.set n k) := by rw [List.map_set]
section
def tb23 : Nat → Option VE.Spec := tabOf [(53, wkIn spTb), (54, wkIn spPix)]
theorem tb23_53 : tb23 53 = some (wkIn spTb) := rfl
theorem tb23_54 : tb23 54 = some (wkIn spPix) := rfl
theorem tb23_ok : TabOK Tryz.prog rt0 tb23 := (tabOf_cons (by kernel_rfl) sat_impl_TileBox (tabOf_cons (by kernel_rfl) sat_impl_Scene_pixel tabOf_nil))
section
attribute [local go_sem] Tryz.f23 tb23_53 tb23_54 spFD_q spFD_A spFD_B spFD_d spFD_pre spFD_post spTb_q spTb_A spTb_pre spTb_post spPix_q spPix_A spPix_pre spPix_post
set_option maxHeartbeats 4000000 in
theorem sat_impl_Frame_draw_0 : Sat Tryz.prog rt0 23 (wkOut spFD) := by
  refine fn_sat hm ttok (tab := tb23) tb23_ok Tryz.func23 (c := Tryz.f23.body.getD .skip) (by kernel_rfl) (ts := [.tmp 6]) (by kernel_rfl) Tryz.ntmps23 (sq := fun _ => true) (by kernel_rfl) ?_
  intro args ins pk hpre0 hpk
  obtain ⟨⟨fw, fh, px, s, t⟩, rfl, rfl, hpre, hdec⟩ := famPreM_ex hpre0
  clear hpre0 hdec
  try simp only [spFD_pre] at hpre
  replace hpk : pk + 0 ≤ pickLimit := hpk
  refine ⟨nle rfl, ?_⟩
  obtain ⟨hfs, hv, rfl, hpl⟩ := hpre
  obtain ⟨hz, hl4, hal⟩ := vScn_parts hv
  have hr := szd_r hz
  have hwh := wh_bd hz
  have hB := tbV_bd hz t
  have hbv : (if isT s.w s.h t = true then tbox s.w s.h t else ⟨0, 0, 0, 0⟩) = tbV s.w s.h t := rfl
  simp (maxSteps := 1000000) only [go_sem, hbv, co_set]
  repeat' first | apply And.intro | intro _ | omega | assumption | with_reducible rfl
  any_goals
    refine loopS (α := (List Colr) × Int) false [0, 1, 2, 5, 9, 10, 11, 12, 13, 14, 15, 16, 17, 18, 19, 20, 21, 22, 23, 24, 25, 26, 27, 28, 29, 30, 31, 32, 33, 34, 35, 36, 37, 38, 39, 40, 41, 42, 43, 44, 45, 46, 47, 48] (fun σ => [0]) (fun σ x => [(9, I x.2)]) (fun σ x => [(0, some ⟨(x.1).map coC, 4, 66, true, false⟩)]) (fun (o, R) => 0) (fun σ => (gL coCd σ (.c (.own 0 (boxN σ 0).es.length false)), gI (σ.get 9))) (fun σ τ => []) (fun (o, R) => ((tbV s.w s.h t).t ≤ R ∧ R ≤ (tbV s.w s.h t).b) ∧ o = stg s.fs s.w (tbV s.w s.h t) px R (tbV s.w s.h t).l) (fun (o, R) => ((tbV s.w s.h t).b - R).toNat) ⟨by (simp (maxSteps := 1000000) only [go_sem, hbv, co_set]; (repeat' first | apply And.intro | intro _ | omega | assumption | with_reducible rfl); all_goals (first | exact (stg_0 _ _ _ _).symm)), ?_⟩
    rintro ⟨o, R⟩ hinv
    try dsimp only at hinv
    simp (maxSteps := 1000000) only [go_sem, hbv, co_set]
    have hol : o.length = px.length := by rw [hinv.2, stg_len]
    repeat' first | apply And.intro | intro _ | omega | assumption | with_reducible rfl
  
  any_goals
    refine loopS (α := (List Colr) × Int) false [0, 1, 2, 5, 10, 11, 12, 13, 14, 15, 16, 17, 18, 19, 20, 21, 22, 23, 24, 25, 26, 27, 28, 29, 30, 31, 32, 33, 34, 35, 36, 37, 38, 39, 40, 41, 42, 43, 44, 45, 46, 47, 48] (fun σ => [0]) (fun σ x => [(10, I x.2)]) (fun σ x => [(0, some ⟨(x.1).map coC, 4, 66, true, false⟩)]) (fun (o, D) => 0) (fun σ => (gL coCd σ (.c (.own 0 (boxN σ 0).es.length false)), gI (σ.get 10))) (fun σ τ => []) (fun (o, D) => ((tbV s.w s.h t).l ≤ D ∧ D ≤ (tbV s.w s.h t).r) ∧ o = stg s.fs s.w (tbV s.w s.h t) px R D) (fun (o, D) => ((tbV s.w s.h t).r - D).toNat) ⟨by (simp (maxSteps := 1000000) only [go_sem, hbv, co_set]; (repeat' first | apply And.intro | intro _ | omega | assumption | with_reducible rfl); all_goals (first | exact hinv.2)), ?_⟩
    rintro ⟨o, D⟩ hinv
    try dsimp only at hinv
    simp (maxSteps := 1000000) only [go_sem, hbv, co_set]
    have hol : o.length = px.length := by rw [hinv.2, stg_len]
    repeat' first | apply And.intro | intro _ | omega | assumption | with_reducible rfl
  all_goals (first | ((have h9 := idx_lt (w := s.w) (h := s.h) (R := R) (C := D) (by omega) (by omega); omega); done) | ((rw [hinv.2]; exact stg_step (by omega) (by omega) (by omega) (by omega) (by omega)); done) | ((rw [hinv.2, show D = (tbV s.w s.h t).r by omega]; exact stg_row _ _ _ _); done) | ((rw [hinv.2, show R = (tbV s.w s.h t).b by omega]; rfl); done))
end
theorem sat_impl_Frame_draw : Sat Tryz.prog rt0 23 (wkIn spFD) := sat_in (sat_out sat_impl_Frame_draw_0)
end
section
def spTilP_A : Frm × Scn × Int → List AV
  | (f, s, t) => [.agg (frC f), .agg (scC s), I t]
def spTilP_pre : Frm × Scn × Int → Prop
  | (f, s, t) => okFs s.fs ∧ vScn s = true ∧ isT s.w s.h t = true ∧ (f.px.length : Int) = s.w * s.h
def spTilP_post : Frm × Scn × Int → AV → List Box → Prop
  | (f, s, t), r, bs => r = .agg (frC (⟨f.w, f.h, tileP s f.px t⟩)) ∧ bs = []
def spTilP : VE.Spec := famSpecS spTilP_A d_fr_sc_i spTilP_pre spTilP_post 0 false
theorem spTilP_q : SpQ spTilP false [] true 0 (fun a i => i = [] ∧ famPre d_fr_sc_i spTilP_A spTilP_pre a) (fun a i r b => famPost d_fr_sc_i spTilP_post a r b) := ⟨rfl, rfl, rfl, rfl, fun _ _ => rfl, fun _ _ _ _ => rfl⟩
def tb29 : Nat → Option VE.Spec := tabOf [(58, wkIn spTb2), (59, wkIn spPix)]
theorem tb29_58 : tb29 58 = some (wkIn spTb2) := rfl
theorem tb29_59 : tb29 59 = some (wkIn spPix) := rfl
theorem tb29_ok : TabOK Tryz.prog rt0 tb29 := (tabOf_cons (by kernel_rfl) sat_spec_tileBox (tabOf_cons (by kernel_rfl) sat_spec_pixel tabOf_nil))
section
attribute [local go_sem] Tryz.f29 tb29_58 tb29_59 spTilP_q spTilP_A spTilP_pre spTilP_post spTb2_q spTb2_A spTb2_pre spTb2_post spPix_q spPix_A spPix_pre spPix_post
set_option maxHeartbeats 4000000 in
theorem sat_spec_tilePixels_0 : Sat Tryz.prog rt0 29 (wkOut spTilP) := by
  refine fn_sat hm ttok (tab := tb29) tb29_ok Tryz.func29 (c := Tryz.f29.body.getD .skip) (by kernel_rfl) (ts := [.cell 6 31]) (by kernel_rfl) Tryz.ntmps29 (sq := fun _ => true) (by kernel_rfl) ?_
  intro args ins pk hpre0 hpk
  obtain ⟨rfl, hpre0⟩ := hpre0
  obtain ⟨⟨f, s, t⟩, rfl, hpre, hdec⟩ := famPre_ex hpre0
  clear hpre0 hdec
  try simp only [spTilP_pre] at hpre
  replace hpk : pk + 0 ≤ pickLimit := hpk
  refine ⟨nle rfl, ?_⟩
  obtain ⟨hfs, hv, hT, hpl⟩ := hpre
  obtain ⟨hz, hl4, hal⟩ := vScn_parts hv
  have hr := szd_r hz
  have hwh := wh_bd hz
  have hB := tbV_bd hz t
  have hbv : tbox s.w s.h t = tbV s.w s.h t := (if_pos hT).symm
  simp (maxSteps := 1000000) only [go_sem, hbv, co_set]
  repeat' first | apply And.intro | intro _ | omega | assumption | with_reducible rfl
  any_goals
    refine loopS (α := (List Colr) × Int) false [0, 1, 2, 5, 9, 10, 11, 12, 13, 14, 15, 16, 17, 18, 19, 20, 21, 22, 23, 24, 25, 26, 27, 28, 29, 30, 31, 32, 33, 34, 35, 36, 37, 38, 39, 40, 41, 42, 43, 44, 45, 46, 47, 48] (fun σ => [gId (σ.get 8)]) (fun σ x => [(8, .c (.own (gId (σ.get 8)) (x.1).length false)), (9, I x.2)]) (fun σ x => [(gId (σ.get 8), some ⟨(x.1).map coC, 4, 66, true, false⟩)]) (fun (o, R) => 0) (fun σ => (gL coCd σ (σ.get 8), gI (σ.get 9))) (fun σ τ => [(gId (σ.get 8), gId (τ.get 8))]) (fun (o, R) => ((tbV s.w s.h t).t ≤ R ∧ R ≤ (tbV s.w s.h t).b) ∧ o = stg s.fs s.w (tbV s.w s.h t) f.px R (tbV s.w s.h t).l) (fun (o, R) => ((tbV s.w s.h t).b - R).toNat) ⟨by (simp (maxSteps := 1000000) only [go_sem, hbv, co_set]; (repeat' first | apply And.intro | intro _ | omega | assumption | with_reducible rfl); all_goals (first | exact (stg_0 _ _ _ _).symm)), ?_⟩
    rintro ⟨o, R⟩ hinv
    try dsimp only at hinv
    simp (maxSteps := 1000000) only [go_sem, hbv, co_set]
    have hol : o.length = f.px.length := by rw [hinv.2, stg_len]
    repeat' first | apply And.intro | intro _ | omega | assumption | with_reducible rfl
  
  any_goals
    refine loopS (α := (List Colr) × Int) false [0, 1, 2, 5, 10, 11, 12, 13, 14, 15, 16, 17, 18, 19, 20, 21, 22, 23, 24, 25, 26, 27, 28, 29, 30, 31, 32, 33, 34, 35, 36, 37, 38, 39, 40, 41, 42, 43, 44, 45, 46, 47, 48] (fun σ => [gId (σ.get 8)]) (fun σ x => [(8, .c (.own (gId (σ.get 8)) (x.1).length false)), (10, I x.2)]) (fun σ x => [(gId (σ.get 8), some ⟨(x.1).map coC, 4, 66, true, false⟩)]) (fun (o, D) => 0) (fun σ => (gL coCd σ (σ.get 8), gI (σ.get 10))) (fun σ τ => [(gId (σ.get 8), gId (τ.get 8))]) (fun (o, D) => ((tbV s.w s.h t).l ≤ D ∧ D ≤ (tbV s.w s.h t).r) ∧ o = stg s.fs s.w (tbV s.w s.h t) f.px R D) (fun (o, D) => ((tbV s.w s.h t).r - D).toNat) ⟨by (simp (maxSteps := 1000000) only [go_sem, hbv, co_set]; (repeat' first | apply And.intro | intro _ | omega | assumption | with_reducible rfl); all_goals (first | exact hinv.2)), ?_⟩
    rintro ⟨o, D⟩ hinv
    try dsimp only at hinv
    simp (maxSteps := 1000000) only [go_sem, hbv, co_set]
    have hol : o.length = f.px.length := by rw [hinv.2, stg_len]
    repeat' first | apply And.intro | intro _ | omega | assumption | with_reducible rfl
  all_goals (first | ((have h9 := idx_lt (w := s.w) (h := s.h) (R := R) (C := D) (by omega) (by omega); omega); done) | ((rw [hinv.2]; exact stg_step (by omega) (by omega) (by omega) (by omega) (by omega)); done) | ((rw [hinv.2, show D = (tbV s.w s.h t).r by omega]; exact stg_row _ _ _ _); done) | ((rw [hinv.2, show R = (tbV s.w s.h t).b by omega]; rfl); done) | (assumption; done))
end
theorem sat_spec_tilePixels : Sat Tryz.prog rt0 29 (wkIn spTilP) := sat_in (sat_out sat_spec_tilePixels_0)
end
theorem frm_eq {a b : Frm} (h1 : a.w = b.w) (h2 : a.h = b.h) (h3 : a.px = b.px) : a = b := by
  obtain ⟨_, _, _⟩ := a
  obtain ⟨_, _, _⟩ := b
  dsimp only at h1 h2 h3
  rw [h1, h2, h3]
theorem frm_dec (a b : Frm) : decide (a = b) = (decide (a.w = b.w) && (decide (a.h = b.h) && decide (a.px = b.px))) := by
  by_cases h1 : a.w = b.w
  · by_cases h2 : a.h = b.h
    · by_cases h3 : a.px = b.px
      · simp [h1, h2, h3, frm_eq h1 h2 h3]
      · have : ¬ a = b := fun e => h3 (by rw [e])
        simp [h1, h2, h3, this]
    · have : ¬ a = b := fun e => h2 (by rw [e])
      simp [h2, this]
  · have : ¬ a = b := fun e => h1 (by rw [e])
    simp [h1, this]
def spEqF_A : Frm × Frm → List AV
  | (a, b) => [.agg (frC a), .agg (frC b)]
def spEqF_pre : Frm × Frm → Prop
  | (a, b) => a.px.length ≤ 1000000000 ∧ b.px.length ≤ 1000000000
def spEqF_post : Frm × Frm → AV → List Box → Prop
  | (a, b), r, bs => r = B (decide (a = b)) ∧ bs = []
def spEqF : VE.Spec := famSpec spEqF_A d_fr_fr spEqF_pre spEqF_post 0 true
theorem spEqF_q : SpQ spEqF true [] false 0 (fun a i => i = [] ∧ famPre d_fr_fr spEqF_A spEqF_pre a) (fun a i r b => famPost d_fr_fr spEqF_post a r b) := ⟨rfl, rfl, rfl, rfl, fun _ _ => rfl, fun _ _ _ _ => rfl⟩
def tb9 : Nat → Option VE.Spec := tabOf [(10, wkIn spEqC)]
theorem tb9_10 : tb9 10 = some (wkIn spEqC) := rfl
theorem tb9_ok : TabOK Tryz.prog rt0 tb9 := (tabOf_cons (by kernel_rfl) sat_laws_equalColors tabOf_nil)
set_option maxHeartbeats 4000000 in
theorem sat_laws_equalFrame_0 : Sat Tryz.prog rt0 9 (wkOut spEqF) := by
  refine fn_sat hm ttok (tab := tb9) tb9_ok Tryz.func9 (c := Tryz.f9.body.getD .skip) (by kernel_rfl) (ts := [.tmp 4]) (by kernel_rfl) Tryz.ntmps9 (sq := fun _ => true) (by kernel_rfl) ?_
  intro args ins pk hpre0 hpk
  obtain ⟨rfl, hpre0⟩ := hpre0
  obtain ⟨⟨a, b⟩, rfl, hpre, hdec⟩ := famPre_ex hpre0
  clear hpre0 hdec
  try simp only [spEqF_pre] at hpre
  replace hpk : pk + 0 ≤ pickLimit := hpk
  refine ⟨nle rfl, ?_⟩
  simp (maxSteps := 1000000) only [go_sem, Tryz.f9, tb9_10, spEqF_q, spEqF_A, spEqF_pre, spEqF_post, spEqC_q, spEqC_A, spEqC_pre, spEqC_post]
  repeat' first | apply And.intro | intro _ | omega | assumption | with_reducible rfl
  all_goals (first | omega | ((rw [frm_dec]; simp [*]; done); done) | ((rw [frm_dec]; simp_all); done))
theorem sat_laws_equalFrame : Sat Tryz.prog rt0 9 (wkIn spEqF) := sat_in (sat_out sat_laws_equalFrame_0)
end Go.Proofs.YtcejoknapbhloaaGreat
