/- Contracts of functions of the program vectorraster, each proved for all states that fit its description. No conditions. -/
import Derived.Test.YtkhplopcjkkejaaGreatPU
import Derived.Test.YtkhplopcjkkejaaGreatKT
import Derived.Test.YtkhplopcjkkejaaGreatPJ
import Derived.Test.YtkhplopcjkkejaaGreatPT
import Derived.Test.YtkhplopcjkkejaaGreatPA
import Derived.Test.YtkhplopcjkkejaaGreatPQ
import Derived.Test.YtkhplopcjkkejaaGreatPR
import Derived.Test.YtkhplopcjkkejaaGreatPD
set_option linter.unusedSimpArgs false
set_option linter.unusedVariables false
section
set_option maxRecDepth 100000
set_option linter.unusedSimpArgs false
set_option linter.unusedVariables false
namespace Go.Proofs.YtkhplopcjkkejaaGreat
open Go Go.VE
/-- A place of a picture lies in a tile's part that is drawn so far: rows above R, and of row R the columns before C. -/
def inStg (b : Bx) (w R C : Int) (i : Nat) : Prop := b.l ≤ (i : Int) % w ∧ (i : Int) % w < b.r ∧ b.t ≤ (i : Int) / w ∧ ((i : Int) / w < R ∨ (i : Int) / w = R ∧ (i : Int) % w < C)
instance (b : Bx) (w R C : Int) (i : Nat) : Decidable (inStg b w R C i) := by unfold inStg; infer_instance
def stg (fs : List Fil) (w : Int) (b : Bx) (px : List Colr) (R C : Int) : List Colr := px.mapIdx fun i c => if inStg b w R C i then pixF fs ((i : Int) % w) ((i : Int) / w) else c
theorem stg_len (fs : List Fil) (w : Int) (b : Bx) (px : List Colr) (R C : Int) : (stg fs w b px R C).length = px.length := List.length_mapIdx
theorem stg_get (fs : List Fil) (w : Int) (b : Bx) (px : List Colr) (R C : Int) (i : Nat) : (stg fs w b px R C)[i]? = px[i]?.map fun c => if inStg b w R C i then pixF fs ((i : Int) % w) ((i : Int) / w) else c := by
  rw [stg, List.getElem?_mapIdx]
theorem stg_congr {fs : List Fil} {w : Int} {b : Bx} {px : List Colr} {R C R' C' : Int} (h : ∀ i : Nat, i < px.length → (inStg b w R C i ↔ inStg b w R' C' i)) : stg fs w b px R C = stg fs w b px R' C' := by
  refine List.ext_getElem? fun i => ?_
  rw [stg_get, stg_get]
  cases hp : px[i]? with
  | none => rfl
  | some c =>
    have hl := (List.getElem?_eq_some_iff.1 hp).1
    simp only [Option.map_some, Option.some.injEq, h i hl]
theorem stg_0 (fs : List Fil) (w : Int) (b : Bx) (px : List Colr) : stg fs w b px b.t b.l = px := by
  refine List.ext_getElem? fun i => ?_
  rw [stg_get]
  cases hp : px[i]? with
  | none => rfl
  | some c =>
    have hn : ¬ inStg b w b.t b.l i := by unfold inStg; omega
    simp only [Option.map_some, if_neg hn]
theorem stg_row (fs : List Fil) (w : Int) (b : Bx) (px : List Colr) {R : Int} : stg fs w b px R b.r = stg fs w b px (R + 1) b.l := by
  refine stg_congr fun i _ => ?_
  unfold inStg
  constructor <;> (intro h; omega)
theorem at_place {w R C : Int} {i : Nat} (hw : 0 < w) (h0 : 0 ≤ C) (h1 : C < w) (hR : 0 ≤ R) : (i : Int) = R * w + C ↔ (i : Int) / w = R ∧ (i : Int) % w = C := by
  constructor
  · intro h
    rw [h, Int.add_comm, Int.add_mul_ediv_right _ _ (by omega), Int.ediv_eq_zero_of_lt h0 h1, Int.add_mul_emod_self_right, Int.emod_eq_of_lt h0 h1]
    omega
  · rintro ⟨h2, h3⟩
    have := Int.mul_ediv_add_emod (i : Int) w
    rw [h2, h3, Int.mul_comm] at this
    omega
theorem stg_step {fs : List Fil} {w : Int} {b : Bx} {px : List Colr} {R C : Int} (hw : 0 < w) (hC : b.l ≤ C ∧ C < b.r) (hl : 0 ≤ b.l) (hr : b.r ≤ w) (ht : 0 ≤ b.t ∧ b.t ≤ R) : (stg fs w b px R C).set (R * w + C).toNat (pixF fs C R) = stg fs w b px R (C + 1) := by
  have hn : 0 ≤ R * w := Int.mul_nonneg (by omega) (by omega)
  refine List.ext_getElem? fun i => ?_
  rw [List.getElem?_set, stg_len, stg_get, stg_get]
  have hp := at_place (i := i) hw (R := R) (C := C) (by omega) (by omega) (by omega)
  by_cases hi : (R * w + C).toNat = i
  · rw [if_pos hi]
    have h1 := hp.1 (by omega)
    by_cases hlt : i < px.length
    · rw [if_pos (by omega), List.getElem?_eq_getElem hlt, Option.map_some]
      have hin : inStg b w R (C + 1) i := by unfold inStg; omega
      rw [if_pos hin, h1.1, h1.2]
    · rw [if_neg (by omega), List.getElem?_eq_none (by omega)]; rfl
  · rw [if_neg hi]
    have h1 : ¬ ((i : Int) / w = R ∧ (i : Int) % w = C) := fun h => hi (by have := hp.2 h; omega)
    have he : inStg b w R C i ↔ inStg b w R (C + 1) i := by unfold inStg; constructor <;> (intro h; omega)
    simp only [he]
end Go.Proofs.YtkhplopcjkkejaaGreat
end
section
set_option maxRecDepth 100000
set_option linter.unusedSimpArgs false
set_option linter.unusedVariables false
namespace Go.Proofs.YtkhplopcjkkejaaGreat
open Go Go.VE
def tbV (w h t : Int) : Bx := if isT w h t = true then tbox w h t else ⟨0, 0, 0, 0⟩
def tileP (s : Scn) (px : List Colr) (t : Int) : List Colr := stg s.fs s.w (tbV s.w s.h t) px (tbV s.w s.h t).b (tbV s.w s.h t).l
theorem tbV_bd {w h : Int} (hz : szd w h = true) (t : Int) : (0 ≤ (tbV w h t).l ∧ (tbV w h t).l ≤ (tbV w h t).r ∧ (tbV w h t).r ≤ w) ∧ 0 ≤ (tbV w h t).t ∧ (tbV w h t).t ≤ (tbV w h t).b ∧ (tbV w h t).b ≤ h := by
  have hr := szd_r hz
  unfold tbV
  split
  · rename_i ht
    obtain ⟨f1, f2, f3, f4, f5, f6, f7, f8, f9, f10⟩ := isT_facts ht
    simp only [tbox]
    unfold acr at *
    omega
  · dsimp only; omega
theorem tileP_len (s : Scn) (px : List Colr) (t : Int) : (tileP s px t).length = px.length := stg_len _ _ _ _ _ _
theorem idx_lt {w h R C : Int} (hR : 0 ≤ R ∧ R < h) (hC : 0 ≤ C ∧ C < w) : 0 ≤ R * w + C ∧ R * w + C < w * h := by
  have h1 : 0 ≤ R * w := Int.mul_nonneg hR.1 (by omega)
  have h2 : (R + 1) * w ≤ h * w := Int.mul_le_mul_of_nonneg_right (by omega) (by omega)
  rw [Int.add_mul, Int.one_mul, Int.mul_comm h w] at h2
  omega
def spFD_A : Int × Int × List Colr × Scn × Int → List AV
  | (fw, fh, px, s, t) => [.agg [C.v (.int .i64 fw), C.v (.int .i64 fh), C.own 0 px.length false], .agg (scC s), I t]
def spFD_B : Int × Int × List Colr × Scn × Int → List Box
  | (fw, fh, px, s, t) => [⟨px.map coC, 4, 29, true, false⟩]
def spFD_d : List AV → List Box → Option (Int × Int × List Colr × Scn × Int)
  | [.agg [.v (.int .i64 fw), .v (.int .i64 fh), .own 0 _ false], .agg c, .c (.v (.int .i64 t))], [⟨es, _, _, _, _⟩] => match decAll coCd es, scCd c with
    | some px, some s => some (fw, fh, px, s, t)
    | _, _ => none
  | _, _ => none
def spFD_pre : Int × Int × List Colr × Scn × Int → Prop
  | (fw, fh, px, s, t) => okFs s.fs ∧ vScn s = true ∧ fw = s.w ∧ (px.length : Int) = s.w * s.h
def spFD_post : Int × Int × List Colr × Scn × Int → AV → List Box → Prop
  | (fw, fh, px, s, t), r, bs => r = B (isT s.w s.h t) ∧ bs = [⟨(tileP s px t).map coC, 4, 29, true, false⟩]
def spFD : VE.Spec := famSpecM spFD_A spFD_B spFD_d spFD_pre spFD_post 0 false [true] false
theorem spFD_q : spFD.flat = false ∧ spFD.mt = [true] ∧ spFD.shut = false ∧ spFD.cost = 0 ∧ (∀ a i, spFD.pre a i = (famPreM spFD_d spFD_A spFD_B spFD_pre a i)) ∧ ∀ a i r b, spFD.post a i r b = (famPostM spFD_d spFD_post a i r b) := ⟨rfl, rfl, rfl, rfl, fun _ _ => rfl, fun _ _ _ _ => rfl⟩
theorem co_set (o : List Colr) (n : Nat) (k : Colr) : (List.map coC o).set n (coC k) = List.map coC (o.set n k) := by rw [List.map_set]
end Go.Proofs.YtkhplopcjkkejaaGreat
end
section
set_option maxRecDepth 100000
set_option linter.unusedSimpArgs false
set_option linter.unusedVariables false
namespace Go.Proofs.YtkhplopcjkkejaaGreat
open Go Go.VE
def tb79 : Nat → Option VE.Spec := tabOf [(38, wkIn spTb), (48, wkIn spPix)]
theorem tb79_38 : tb79 38 = some (wkIn spTb) := rfl
theorem tb79_48 : tb79 48 = some (wkIn spPix) := rfl
theorem tb79_ok : TabOK Tryz.prog rt0 tb79 := (tabOf_cons (by kernel_rfl) sat_impl_TileBox (tabOf_cons (by kernel_rfl) sat_impl_Scene_pixel tabOf_nil))
set_option maxHeartbeats 4000000 in
theorem sat_impl_Frame_draw_0 : Sat Tryz.prog rt0 79 (wkOut spFD) := by
  refine fn_sat hm ttok (tab := tb79) tb79_ok Tryz.func79 (c := Tryz.f79.body.getD .skip) (by kernel_rfl) (ts := [.tmp 6]) (by kernel_rfl) Tryz.ntmps79 (sq := fun _ => true) (by kernel_rfl) ?_
  intro args ins pk hpre0 hpk
  obtain ⟨⟨fw, fh, px, s, t⟩, rfl, rfl, hpre, hdec⟩ := famPreM_ex hpre0
  clear hpre0 hdec
  try simp only [spFD_pre] at hpre
  replace hpk : pk + 0 ≤ pickLimit := hpk
  refine ⟨Nat.le_of_ble_eq_true rfl, ?_⟩
  obtain ⟨hfs, hv, rfl, hpl⟩ := hpre
  obtain ⟨hz, hl4, hal⟩ := vScn_parts hv
  have hr := szd_r hz
  have hwh := wh_bd hz
  have hB := tbV_bd hz t
  have hbv : (if isT s.w s.h t = true then tbox s.w s.h t else ⟨0, 0, 0, 0⟩) = tbV s.w s.h t := rfl
  simp (config := { maxSteps := 1000000 }) only [go_sem, ↓ifP_true, ↓ifP_false, ↓ifP_not, Nat.reduceLT, Nat.reduceAdd, Nat.reduceBEq, Nat.reduceSub, Nat.reduceLeDiff, Nat.reduceEqDiff, Nat.reduceMul, Int.reduceToNat, Int.reduceEq, Int.reduceLT, Int.reduceLE, Int.reduceAdd, Int.reduceSub, Int.reduceMul, reduceCtorEq, cond_true, cond_false, forall_eq', forall_eq, forall_const, implies_true, if_true, if_false, exists_eq_left', exists_eq', exists_eq, ne_eq, Tryz.f79, tb79_38, tb79_48, spFD_q, spFD_A, spFD_B, spFD_d, spFD_pre, spFD_post, spTb_q, spTb_A, spTb_pre, spTb_post, spPix_q, spPix_A, spPix_pre, spPix_post, hbv, co_set]
  repeat' (first | apply And.intro | (intro _) | omega | assumption | with_reducible rfl)
  any_goals
    refine loopS (α := (List Colr) × Int) false [0, 1, 2, 5, 9, 10, 11, 12, 13, 14, 15, 16, 17, 18, 19, 20, 21, 22, 23, 24, 25, 26, 27, 28, 29, 30, 31, 32, 33, 34, 35, 36, 37, 38, 39, 40, 41, 42, 43, 44, 45, 46, 47, 48] (fun σ => [0]) (fun σ x => [(9, I x.2)]) (fun σ x => [(0, some ⟨(x.1).map coC, 4, 29, true, false⟩)]) (fun (o, R) => 0) (fun σ => (gL coCd σ (.c (.own 0 (boxN σ 0).es.length false)), gI (σ.get 9))) (fun σ τ => []) (fun (o, R) => ((tbV s.w s.h t).t ≤ R ∧ R ≤ (tbV s.w s.h t).b) ∧ o = stg s.fs s.w (tbV s.w s.h t) px R (tbV s.w s.h t).l) (fun (o, R) => ((tbV s.w s.h t).b - R).toNat) ⟨by (simp (config := { maxSteps := 1000000 }) only [go_sem, ↓ifP_true, ↓ifP_false, ↓ifP_not, Nat.reduceLT, Nat.reduceAdd, Nat.reduceBEq, Nat.reduceSub, Nat.reduceLeDiff, Nat.reduceEqDiff, Nat.reduceMul, Int.reduceToNat, Int.reduceEq, Int.reduceLT, Int.reduceLE, Int.reduceAdd, Int.reduceSub, Int.reduceMul, reduceCtorEq, cond_true, cond_false, forall_eq', forall_eq, forall_const, implies_true, if_true, if_false, exists_eq_left', exists_eq', exists_eq, ne_eq, Tryz.f79, tb79_38, tb79_48, spFD_q, spFD_A, spFD_B, spFD_d, spFD_pre, spFD_post, spTb_q, spTb_A, spTb_pre, spTb_post, spPix_q, spPix_A, spPix_pre, spPix_post, hbv, co_set]; (repeat' (first | apply And.intro | (intro _) | omega | assumption | with_reducible rfl)); all_goals (first | exact (stg_0 _ _ _ _).symm)), ?_⟩
    rintro ⟨o, R⟩ hinv
    try dsimp only at hinv
    simp (config := { maxSteps := 1000000 }) only [go_sem, ↓ifP_true, ↓ifP_false, ↓ifP_not, Nat.reduceLT, Nat.reduceAdd, Nat.reduceBEq, Nat.reduceSub, Nat.reduceLeDiff, Nat.reduceEqDiff, Nat.reduceMul, Int.reduceToNat, Int.reduceEq, Int.reduceLT, Int.reduceLE, Int.reduceAdd, Int.reduceSub, Int.reduceMul, reduceCtorEq, cond_true, cond_false, forall_eq', forall_eq, forall_const, implies_true, if_true, if_false, exists_eq_left', exists_eq', exists_eq, ne_eq, Tryz.f79, tb79_38, tb79_48, spFD_q, spFD_A, spFD_B, spFD_d, spFD_pre, spFD_post, spTb_q, spTb_A, spTb_pre, spTb_post, spPix_q, spPix_A, spPix_pre, spPix_post, hbv, co_set]
    have hol : o.length = px.length := by rw [hinv.2, stg_len]
    repeat' (first | apply And.intro | (intro _) | omega | assumption | with_reducible rfl)
  
  any_goals
    refine loopS (α := (List Colr) × Int) false [0, 1, 2, 5, 10, 11, 12, 13, 14, 15, 16, 17, 18, 19, 20, 21, 22, 23, 24, 25, 26, 27, 28, 29, 30, 31, 32, 33, 34, 35, 36, 37, 38, 39, 40, 41, 42, 43, 44, 45, 46, 47, 48] (fun σ => [0]) (fun σ x => [(10, I x.2)]) (fun σ x => [(0, some ⟨(x.1).map coC, 4, 29, true, false⟩)]) (fun (o, D) => 0) (fun σ => (gL coCd σ (.c (.own 0 (boxN σ 0).es.length false)), gI (σ.get 10))) (fun σ τ => []) (fun (o, D) => ((tbV s.w s.h t).l ≤ D ∧ D ≤ (tbV s.w s.h t).r) ∧ o = stg s.fs s.w (tbV s.w s.h t) px R D) (fun (o, D) => ((tbV s.w s.h t).r - D).toNat) ⟨by (simp (config := { maxSteps := 1000000 }) only [go_sem, ↓ifP_true, ↓ifP_false, ↓ifP_not, Nat.reduceLT, Nat.reduceAdd, Nat.reduceBEq, Nat.reduceSub, Nat.reduceLeDiff, Nat.reduceEqDiff, Nat.reduceMul, Int.reduceToNat, Int.reduceEq, Int.reduceLT, Int.reduceLE, Int.reduceAdd, Int.reduceSub, Int.reduceMul, reduceCtorEq, cond_true, cond_false, forall_eq', forall_eq, forall_const, implies_true, if_true, if_false, exists_eq_left', exists_eq', exists_eq, ne_eq, Tryz.f79, tb79_38, tb79_48, spFD_q, spFD_A, spFD_B, spFD_d, spFD_pre, spFD_post, spTb_q, spTb_A, spTb_pre, spTb_post, spPix_q, spPix_A, spPix_pre, spPix_post, hbv, co_set]; (repeat' (first | apply And.intro | (intro _) | omega | assumption | with_reducible rfl)); all_goals (first | exact hinv.2)), ?_⟩
    rintro ⟨o, D⟩ hinv
    try dsimp only at hinv
    simp (config := { maxSteps := 1000000 }) only [go_sem, ↓ifP_true, ↓ifP_false, ↓ifP_not, Nat.reduceLT, Nat.reduceAdd, Nat.reduceBEq, Nat.reduceSub, Nat.reduceLeDiff, Nat.reduceEqDiff, Nat.reduceMul, Int.reduceToNat, Int.reduceEq, Int.reduceLT, Int.reduceLE, Int.reduceAdd, Int.reduceSub, Int.reduceMul, reduceCtorEq, cond_true, cond_false, forall_eq', forall_eq, forall_const, implies_true, if_true, if_false, exists_eq_left', exists_eq', exists_eq, ne_eq, Tryz.f79, tb79_38, tb79_48, spFD_q, spFD_A, spFD_B, spFD_d, spFD_pre, spFD_post, spTb_q, spTb_A, spTb_pre, spTb_post, spPix_q, spPix_A, spPix_pre, spPix_post, hbv, co_set]
    have hol : o.length = px.length := by rw [hinv.2, stg_len]
    repeat' (first | apply And.intro | (intro _) | omega | assumption | with_reducible rfl)
  all_goals (first | ((have h9 := idx_lt (w := s.w) (h := s.h) (R := R) (C := D) (by omega) (by omega); omega); done) | ((rw [hinv.2]; exact stg_step (by omega) (by omega) (by omega) (by omega) (by omega)); done) | ((rw [hinv.2, show D = (tbV s.w s.h t).r by omega]; exact stg_row _ _ _ _); done) | ((rw [hinv.2, show R = (tbV s.w s.h t).b by omega]; rfl); done))
theorem sat_impl_Frame_draw : Sat Tryz.prog rt0 79 (wkIn spFD) := sat_in (sat_out sat_impl_Frame_draw_0)
end Go.Proofs.YtkhplopcjkkejaaGreat
end
section
set_option maxRecDepth 100000
set_option linter.unusedSimpArgs false
set_option linter.unusedVariables false
namespace Go.Proofs.YtkhplopcjkkejaaGreat
open Go Go.VE
def spTilP_A : Frm × Scn × Int → List AV
  | (f, s, t) => [.agg (frC f), .agg (scC s), I t]
def spTilP_pre : Frm × Scn × Int → Prop
  | (f, s, t) => okFs s.fs ∧ vScn s = true ∧ isT s.w s.h t = true ∧ (f.px.length : Int) = s.w * s.h
def spTilP_post : Frm × Scn × Int → AV → List Box → Prop
  | (f, s, t), r, bs => r = .agg (frC (⟨f.w, f.h, tileP s f.px t⟩)) ∧ bs = []
def spTilP : VE.Spec := famSpecS spTilP_A d_fr_sc_i spTilP_pre spTilP_post 0 false
theorem spTilP_q : spTilP.flat = false ∧ spTilP.mt = [] ∧ spTilP.shut = true ∧ spTilP.cost = 0 ∧ (∀ a i, spTilP.pre a i = (i = [] ∧ famPre d_fr_sc_i spTilP_A spTilP_pre a)) ∧ ∀ a i r b, spTilP.post a i r b = (famPost d_fr_sc_i spTilP_post a r b) := ⟨rfl, rfl, rfl, rfl, fun _ _ => rfl, fun _ _ _ _ => rfl⟩
def tb82 : Nat → Option VE.Spec := tabOf [(131, wkIn spTb2), (51, wkIn spPix)]
theorem tb82_131 : tb82 131 = some (wkIn spTb2) := rfl
theorem tb82_51 : tb82 51 = some (wkIn spPix) := rfl
theorem tb82_ok : TabOK Tryz.prog rt0 tb82 := (tabOf_cons (by kernel_rfl) sat_spec_tileBox (tabOf_cons (by kernel_rfl) sat_spec_pixel tabOf_nil))
set_option maxHeartbeats 4000000 in
theorem sat_spec_tilePixels_0 : Sat Tryz.prog rt0 82 (wkOut spTilP) := by
  refine fn_sat hm ttok (tab := tb82) tb82_ok Tryz.func82 (c := Tryz.f82.body.getD .skip) (by kernel_rfl) (ts := [.cell 6 61]) (by kernel_rfl) Tryz.ntmps82 (sq := fun _ => true) (by kernel_rfl) ?_
  intro args ins pk hpre0 hpk
  obtain ⟨rfl, hpre0⟩ := hpre0
  obtain ⟨⟨f, s, t⟩, rfl, hpre, hdec⟩ := famPre_ex hpre0
  clear hpre0 hdec
  try simp only [spTilP_pre] at hpre
  replace hpk : pk + 0 ≤ pickLimit := hpk
  refine ⟨Nat.le_of_ble_eq_true rfl, ?_⟩
  obtain ⟨hfs, hv, hT, hpl⟩ := hpre
  obtain ⟨hz, hl4, hal⟩ := vScn_parts hv
  have hr := szd_r hz
  have hwh := wh_bd hz
  have hB := tbV_bd hz t
  have hbv : tbox s.w s.h t = tbV s.w s.h t := (if_pos hT).symm
  simp (config := { maxSteps := 1000000 }) only [go_sem, ↓ifP_true, ↓ifP_false, ↓ifP_not, Nat.reduceLT, Nat.reduceAdd, Nat.reduceBEq, Nat.reduceSub, Nat.reduceLeDiff, Nat.reduceEqDiff, Nat.reduceMul, Int.reduceToNat, Int.reduceEq, Int.reduceLT, Int.reduceLE, Int.reduceAdd, Int.reduceSub, Int.reduceMul, reduceCtorEq, cond_true, cond_false, forall_eq', forall_eq, forall_const, implies_true, if_true, if_false, exists_eq_left', exists_eq', exists_eq, ne_eq, Tryz.f82, tb82_131, tb82_51, spTilP_q, spTilP_A, spTilP_pre, spTilP_post, spTb2_q, spTb2_A, spTb2_pre, spTb2_post, spPix_q, spPix_A, spPix_pre, spPix_post, hbv, co_set]
  repeat' (first | apply And.intro | (intro _) | omega | assumption | with_reducible rfl)
  any_goals
    refine loopS (α := (List Colr) × Int) false [0, 1, 2, 5, 9, 10, 11, 12, 13, 14, 15, 16, 17, 18, 19, 20, 21, 22, 23, 24, 25, 26, 27, 28, 29, 30, 31, 32, 33, 34, 35, 36, 37, 38, 39, 40, 41, 42, 43, 44, 45, 46, 47, 48] (fun σ => [gId (σ.get 8)]) (fun σ x => [(8, .c (.own (gId (σ.get 8)) (x.1).length false)), (9, I x.2)]) (fun σ x => [(gId (σ.get 8), some ⟨(x.1).map coC, 4, 29, true, false⟩)]) (fun (o, R) => 0) (fun σ => (gL coCd σ (σ.get 8), gI (σ.get 9))) (fun σ τ => [(gId (σ.get 8), gId (τ.get 8))]) (fun (o, R) => ((tbV s.w s.h t).t ≤ R ∧ R ≤ (tbV s.w s.h t).b) ∧ o = stg s.fs s.w (tbV s.w s.h t) f.px R (tbV s.w s.h t).l) (fun (o, R) => ((tbV s.w s.h t).b - R).toNat) ⟨by (simp (config := { maxSteps := 1000000 }) only [go_sem, ↓ifP_true, ↓ifP_false, ↓ifP_not, Nat.reduceLT, Nat.reduceAdd, Nat.reduceBEq, Nat.reduceSub, Nat.reduceLeDiff, Nat.reduceEqDiff, Nat.reduceMul, Int.reduceToNat, Int.reduceEq, Int.reduceLT, Int.reduceLE, Int.reduceAdd, Int.reduceSub, Int.reduceMul, reduceCtorEq, cond_true, cond_false, forall_eq', forall_eq, forall_const, implies_true, if_true, if_false, exists_eq_left', exists_eq', exists_eq, ne_eq, Tryz.f82, tb82_131, tb82_51, spTilP_q, spTilP_A, spTilP_pre, spTilP_post, spTb2_q, spTb2_A, spTb2_pre, spTb2_post, spPix_q, spPix_A, spPix_pre, spPix_post, hbv, co_set]; (repeat' (first | apply And.intro | (intro _) | omega | assumption | with_reducible rfl)); all_goals (first | exact (stg_0 _ _ _ _).symm)), ?_⟩
    rintro ⟨o, R⟩ hinv
    try dsimp only at hinv
    simp (config := { maxSteps := 1000000 }) only [go_sem, ↓ifP_true, ↓ifP_false, ↓ifP_not, Nat.reduceLT, Nat.reduceAdd, Nat.reduceBEq, Nat.reduceSub, Nat.reduceLeDiff, Nat.reduceEqDiff, Nat.reduceMul, Int.reduceToNat, Int.reduceEq, Int.reduceLT, Int.reduceLE, Int.reduceAdd, Int.reduceSub, Int.reduceMul, reduceCtorEq, cond_true, cond_false, forall_eq', forall_eq, forall_const, implies_true, if_true, if_false, exists_eq_left', exists_eq', exists_eq, ne_eq, Tryz.f82, tb82_131, tb82_51, spTilP_q, spTilP_A, spTilP_pre, spTilP_post, spTb2_q, spTb2_A, spTb2_pre, spTb2_post, spPix_q, spPix_A, spPix_pre, spPix_post, hbv, co_set]
    have hol : o.length = f.px.length := by rw [hinv.2, stg_len]
    repeat' (first | apply And.intro | (intro _) | omega | assumption | with_reducible rfl)
  
  any_goals
    refine loopS (α := (List Colr) × Int) false [0, 1, 2, 5, 10, 11, 12, 13, 14, 15, 16, 17, 18, 19, 20, 21, 22, 23, 24, 25, 26, 27, 28, 29, 30, 31, 32, 33, 34, 35, 36, 37, 38, 39, 40, 41, 42, 43, 44, 45, 46, 47, 48] (fun σ => [gId (σ.get 8)]) (fun σ x => [(8, .c (.own (gId (σ.get 8)) (x.1).length false)), (10, I x.2)]) (fun σ x => [(gId (σ.get 8), some ⟨(x.1).map coC, 4, 29, true, false⟩)]) (fun (o, D) => 0) (fun σ => (gL coCd σ (σ.get 8), gI (σ.get 10))) (fun σ τ => [(gId (σ.get 8), gId (τ.get 8))]) (fun (o, D) => ((tbV s.w s.h t).l ≤ D ∧ D ≤ (tbV s.w s.h t).r) ∧ o = stg s.fs s.w (tbV s.w s.h t) f.px R D) (fun (o, D) => ((tbV s.w s.h t).r - D).toNat) ⟨by (simp (config := { maxSteps := 1000000 }) only [go_sem, ↓ifP_true, ↓ifP_false, ↓ifP_not, Nat.reduceLT, Nat.reduceAdd, Nat.reduceBEq, Nat.reduceSub, Nat.reduceLeDiff, Nat.reduceEqDiff, Nat.reduceMul, Int.reduceToNat, Int.reduceEq, Int.reduceLT, Int.reduceLE, Int.reduceAdd, Int.reduceSub, Int.reduceMul, reduceCtorEq, cond_true, cond_false, forall_eq', forall_eq, forall_const, implies_true, if_true, if_false, exists_eq_left', exists_eq', exists_eq, ne_eq, Tryz.f82, tb82_131, tb82_51, spTilP_q, spTilP_A, spTilP_pre, spTilP_post, spTb2_q, spTb2_A, spTb2_pre, spTb2_post, spPix_q, spPix_A, spPix_pre, spPix_post, hbv, co_set]; (repeat' (first | apply And.intro | (intro _) | omega | assumption | with_reducible rfl)); all_goals (first | exact hinv.2)), ?_⟩
    rintro ⟨o, D⟩ hinv
    try dsimp only at hinv
    simp (config := { maxSteps := 1000000 }) only [go_sem, ↓ifP_true, ↓ifP_false, ↓ifP_not, Nat.reduceLT, Nat.reduceAdd, Nat.reduceBEq, Nat.reduceSub, Nat.reduceLeDiff, Nat.reduceEqDiff, Nat.reduceMul, Int.reduceToNat, Int.reduceEq, Int.reduceLT, Int.reduceLE, Int.reduceAdd, Int.reduceSub, Int.reduceMul, reduceCtorEq, cond_true, cond_false, forall_eq', forall_eq, forall_const, implies_true, if_true, if_false, exists_eq_left', exists_eq', exists_eq, ne_eq, Tryz.f82, tb82_131, tb82_51, spTilP_q, spTilP_A, spTilP_pre, spTilP_post, spTb2_q, spTb2_A, spTb2_pre, spTb2_post, spPix_q, spPix_A, spPix_pre, spPix_post, hbv, co_set]
    have hol : o.length = f.px.length := by rw [hinv.2, stg_len]
    repeat' (first | apply And.intro | (intro _) | omega | assumption | with_reducible rfl)
  all_goals (first | ((have h9 := idx_lt (w := s.w) (h := s.h) (R := R) (C := D) (by omega) (by omega); omega); done) | ((rw [hinv.2]; exact stg_step (by omega) (by omega) (by omega) (by omega) (by omega)); done) | ((rw [hinv.2, show D = (tbV s.w s.h t).r by omega]; exact stg_row _ _ _ _); done) | ((rw [hinv.2, show R = (tbV s.w s.h t).b by omega]; rfl); done) | (assumption; done))
theorem sat_spec_tilePixels : Sat Tryz.prog rt0 82 (wkIn spTilP) := sat_in (sat_out sat_spec_tilePixels_0)
end Go.Proofs.YtkhplopcjkkejaaGreat
end
section
set_option maxRecDepth 100000
set_option linter.unusedSimpArgs false
set_option linter.unusedVariables false
namespace Go.Proofs.YtkhplopcjkkejaaGreat
open Go Go.VE
def vFrm (f : Frm) : Bool := szd f.w f.h && decide ((f.px.length : Int) = f.w * f.h) && f.px.all vCol
theorem vFrm_parts {f : Frm} (h : vFrm f = true) : szd f.w f.h = true ∧ (f.px.length : Int) = f.w * f.h ∧ f.px.all vCol = true := by
  simp only [vFrm, Bool.and_eq_true, decide_eq_true_eq] at h
  exact ⟨h.1.1, h.1.2, h.2⟩
def okDT (f : Frm) (s : Scn) (t : Int) : Bool := vFrm f && vScn s && decide (f.w = s.w) && decide (f.h = s.h) && isT s.w s.h t
theorem okDT_parts {f : Frm} {s : Scn} {t : Int} (h : okDT f s t = true) : vFrm f = true ∧ vScn s = true ∧ f.w = s.w ∧ f.h = s.h ∧ isT s.w s.h t = true := by
  simp only [okDT, Bool.and_eq_true, decide_eq_true_eq] at h
  exact ⟨h.1.1.1.1, h.1.1.1.2, h.1.1.2, h.1.2, h.2⟩
theorem okDT_of {f : Frm} {s : Scn} {t : Int} (h1 : vFrm f = true) (h2 : vScn s = true) (h3 : f.w = s.w) (h4 : f.h = s.h) (h5 : isT s.w s.h t = true) : okDT f s t = true := by
  simp [okDT, *]
theorem dt_n1 {f : Frm} {s : Scn} {t : Int} (h : vFrm f = false) : okDT f s t = false := by simp [okDT, h]
theorem dt_n2 {f : Frm} {s : Scn} {t : Int} (h : vScn s = false) : okDT f s t = false := by simp [okDT, h]
theorem dt_n3 {f : Frm} {s : Scn} {t : Int} (h : ¬ f.w = s.w) : okDT f s t = false := by simp [okDT, h]
theorem dt_n4 {f : Frm} {s : Scn} {t : Int} (h : ¬ f.h = s.h) : okDT f s t = false := by simp [okDT, h]
theorem dt_n5 {f : Frm} {s : Scn} {t : Int} (h : isT s.w s.h t = false) : okDT f s t = false := by simp [okDT, h]
def dtF (f : Frm) (s : Scn) (t : Int) : Frm := if okDT f s t = true then ⟨f.w, f.h, tileP s f.px t⟩ else ⟨0, 0, []⟩
theorem dt_yes {f : Frm} {s : Scn} {t : Int} (h : okDT f s t = true) : dtF f s t = ⟨f.w, f.h, tileP s f.px t⟩ := if_pos h
theorem dt_no {f : Frm} {s : Scn} {t : Int} (h : okDT f s t = false) : dtF f s t = ⟨0, 0, []⟩ := if_neg (by rw [h]; decide)
def spNCol_A : Colr → List AV
  | c => [.agg (coC c)]
def spNCol_pre : Colr → Prop
  | c => True
def spNCol_post : Colr → AV → List Box → Prop
  | c, r, bs => r = B (!vCol c) ∧ bs = []
def spNCol : VE.Spec := famSpec spNCol_A d_co spNCol_pre spNCol_post 0 true
theorem spNCol_q : spNCol.flat = true ∧ spNCol.mt = [] ∧ spNCol.shut = false ∧ spNCol.cost = 0 ∧ (∀ a i, spNCol.pre a i = (i = [] ∧ famPre d_co spNCol_A spNCol_pre a)) ∧ ∀ a i r b, spNCol.post a i r b = (famPost d_co spNCol_post a r b) := ⟨rfl, rfl, rfl, rfl, fun _ _ => rfl, fun _ _ _ _ => rfl⟩
def tb127 : Nat → Option VE.Spec := tabOf [(23, wkIn spVCol)]
theorem tb127_23 : tb127 23 = some (wkIn spVCol) := rfl
theorem tb127_ok : TabOK Tryz.prog rt0 tb127 := (tabOf_cons (by kernel_rfl) sat_impl_ValidColor tabOf_nil)
set_option maxHeartbeats 4000000 in
theorem sat_impl_Frame_valid_1_0 : Sat Tryz.prog rt0 127 (wkOut spNCol) := by
  refine fn_sat hm ttok (tab := tb127) tb127_ok Tryz.func127 (c := Tryz.f127.body.getD .skip) (by kernel_rfl) (ts := [.tmp 2]) (by kernel_rfl) Tryz.ntmps127 (sq := fun _ => true) (by kernel_rfl) ?_
  intro args ins pk hpre0 hpk
  obtain ⟨rfl, hpre0⟩ := hpre0
  obtain ⟨c, rfl, hpre, hdec⟩ := famPre_ex hpre0
  clear hpre0 hdec
  try simp only [spNCol_pre] at hpre
  replace hpk : pk + 0 ≤ pickLimit := hpk
  refine ⟨Nat.le_of_ble_eq_true rfl, ?_⟩
  simp (config := { maxSteps := 1000000 }) only [go_sem, ↓ifP_true, ↓ifP_false, ↓ifP_not, Nat.reduceLT, Nat.reduceAdd, Nat.reduceBEq, Nat.reduceSub, Nat.reduceLeDiff, Nat.reduceEqDiff, Nat.reduceMul, Int.reduceToNat, Int.reduceEq, Int.reduceLT, Int.reduceLE, Int.reduceAdd, Int.reduceSub, Int.reduceMul, reduceCtorEq, cond_true, cond_false, forall_eq', forall_eq, forall_const, implies_true, if_true, if_false, exists_eq_left', exists_eq', exists_eq, ne_eq, Tryz.f127, tb127_23, spNCol_q, spNCol_A, spNCol_pre, spNCol_post, spVCol_q, spVCol_A, spVCol_pre, spVCol_post]
  repeat' (first | apply And.intro | (intro _) | omega | assumption | with_reducible rfl)
theorem sat_impl_Frame_valid_1 : Sat Tryz.prog rt0 127 (wkIn spNCol) := sat_in (sat_out sat_impl_Frame_valid_1_0)
def spIdxC_A : (List Colr) → List AV
  | l => [.c (.sl false (l.map coC)), .c (.fn 127 [])]
def spIdxC_pre : (List Colr) → Prop
  | l => l.length ≤ 1000000000
def spIdxC_post : (List Colr) → AV → List Box → Prop
  | l, r, bs => ∃ m, r = I m ∧ bs = [] ∧ decide (0 ≤ m) = (!l.all vCol)
def spIdxC : VE.Spec := famSpec spIdxC_A d_lco_f127 spIdxC_pre spIdxC_post 0 true
theorem spIdxC_q : spIdxC.flat = true ∧ spIdxC.mt = [] ∧ spIdxC.shut = false ∧ spIdxC.cost = 0 ∧ (∀ a i, spIdxC.pre a i = (i = [] ∧ famPre d_lco_f127 spIdxC_A spIdxC_pre a)) ∧ ∀ a i r b, spIdxC.post a i r b = (famPost d_lco_f127 spIdxC_post a r b) := ⟨rfl, rfl, rfl, rfl, fun _ _ => rfl, fun _ _ _ _ => rfl⟩
def tb167 : Nat → Option VE.Spec := tabOf [(127, wkIn spNCol)]
theorem tb167_127 : tb167 127 = some (wkIn spNCol) := rfl
theorem tb167_ok : TabOK Tryz.prog rt0 tb167 := (tabOf_cons (by kernel_rfl) sat_impl_Frame_valid_1 tabOf_nil)
set_option maxHeartbeats 4000000 in
theorem sat_slices_IndexFunc_impl_Color_impl_Color_0 : Sat Tryz.prog rt0 167 (wkOut spIdxC) := by
  refine fn_sat hm ttok (tab := tb167) tb167_ok Tryz.func167 (c := Tryz.f167.body.getD .skip) (by kernel_rfl) (ts := [.tmp 4]) (by kernel_rfl) Tryz.ntmps167 (sq := fun _ => true) (by kernel_rfl) ?_
  intro args ins pk hpre0 hpk
  obtain ⟨rfl, hpre0⟩ := hpre0
  obtain ⟨l, rfl, hpre, hdec⟩ := famPre_ex hpre0
  clear hpre0 hdec
  try simp only [spIdxC_pre] at hpre
  replace hpk : pk + 0 ≤ pickLimit := hpk
  refine ⟨Nat.le_of_ble_eq_true rfl, ?_⟩
  simp (config := { maxSteps := 1000000 }) only [go_sem, ↓ifP_true, ↓ifP_false, ↓ifP_not, Nat.reduceLT, Nat.reduceAdd, Nat.reduceBEq, Nat.reduceSub, Nat.reduceLeDiff, Nat.reduceEqDiff, Nat.reduceMul, Int.reduceToNat, Int.reduceEq, Int.reduceLT, Int.reduceLE, Int.reduceAdd, Int.reduceSub, Int.reduceMul, reduceCtorEq, cond_true, cond_false, forall_eq', forall_eq, forall_const, implies_true, if_true, if_false, exists_eq_left', exists_eq', exists_eq, ne_eq, Tryz.f167, tb167_127, spIdxC_q, spIdxC_A, spIdxC_pre, spIdxC_post, spNCol_q, spNCol_A, spNCol_pre, spNCol_post]
  repeat' (first | apply And.intro | (intro _) | omega | assumption | with_reducible rfl)
  refine loopS (α := Int) false [2, 3, 4, 5, 6, 8, 9, 10, 11, 12, 13, 14, 15, 16, 17, 18] (fun σ => []) (fun σ x => [(8, I x)]) (fun σ x => []) (fun i => 0) (fun σ => gI (σ.get 8)) (fun σ τ => []) (fun i => 0 ≤ i ∧ i ≤ l.length ∧ (l.take i.toNat).all vCol = true) (fun i => (l.length - i).toNat) ⟨by (simp (config := { maxSteps := 1000000 }) only [go_sem, ↓ifP_true, ↓ifP_false, ↓ifP_not, Nat.reduceLT, Nat.reduceAdd, Nat.reduceBEq, Nat.reduceSub, Nat.reduceLeDiff, Nat.reduceEqDiff, Nat.reduceMul, Int.reduceToNat, Int.reduceEq, Int.reduceLT, Int.reduceLE, Int.reduceAdd, Int.reduceSub, Int.reduceMul, reduceCtorEq, cond_true, cond_false, forall_eq', forall_eq, forall_const, implies_true, if_true, if_false, exists_eq_left', exists_eq', exists_eq, ne_eq, Tryz.f167, tb167_127, spIdxC_q, spIdxC_A, spIdxC_pre, spIdxC_post, spNCol_q, spNCol_A, spNCol_pre, spNCol_post]; (repeat' (first | apply And.intro | (intro _) | omega | assumption | with_reducible rfl))), ?_⟩
  rintro i hinv
  try dsimp only at hinv
  simp (config := { maxSteps := 1000000 }) only [go_sem, ↓ifP_true, ↓ifP_false, ↓ifP_not, Nat.reduceLT, Nat.reduceAdd, Nat.reduceBEq, Nat.reduceSub, Nat.reduceLeDiff, Nat.reduceEqDiff, Nat.reduceMul, Int.reduceToNat, Int.reduceEq, Int.reduceLT, Int.reduceLE, Int.reduceAdd, Int.reduceSub, Int.reduceMul, reduceCtorEq, cond_true, cond_false, forall_eq', forall_eq, forall_const, implies_true, if_true, if_false, exists_eq_left', exists_eq', exists_eq, ne_eq, Tryz.f167, tb167_127, spIdxC_q, spIdxC_A, spIdxC_pre, spIdxC_post, spNCol_q, spNCol_A, spNCol_pre, spNCol_post]
  repeat' (first | apply And.intro | (intro _) | omega | assumption | with_reducible rfl)
  all_goals (first | (grind [→ takeN, takeA, all_bad]; done))
theorem sat_slices_IndexFunc_impl_Color_impl_Color : Sat Tryz.prog rt0 167 (wkIn spIdxC) := sat_in (sat_out sat_slices_IndexFunc_impl_Color_impl_Color_0)
def spHasC_A : (List Colr) → List AV
  | l => [.c (.sl false (l.map coC)), .c (.fn 127 [])]
def spHasC_pre : (List Colr) → Prop
  | l => l.length ≤ 1000000000
def spHasC_post : (List Colr) → AV → List Box → Prop
  | l, r, bs => r = B (!l.all vCol) ∧ bs = []
def spHasC : VE.Spec := famSpec spHasC_A d_lco_f127 spHasC_pre spHasC_post 0 true
theorem spHasC_q : spHasC.flat = true ∧ spHasC.mt = [] ∧ spHasC.shut = false ∧ spHasC.cost = 0 ∧ (∀ a i, spHasC.pre a i = (i = [] ∧ famPre d_lco_f127 spHasC_A spHasC_pre a)) ∧ ∀ a i r b, spHasC.post a i r b = (famPost d_lco_f127 spHasC_post a r b) := ⟨rfl, rfl, rfl, rfl, fun _ _ => rfl, fun _ _ _ _ => rfl⟩
def tb126 : Nat → Option VE.Spec := tabOf [(167, wkIn spIdxC)]
theorem tb126_167 : tb126 167 = some (wkIn spIdxC) := rfl
theorem tb126_ok : TabOK Tryz.prog rt0 tb126 := (tabOf_cons (by kernel_rfl) sat_slices_IndexFunc_impl_Color_impl_Color tabOf_nil)
set_option maxHeartbeats 4000000 in
theorem sat_slices_ContainsFunc_impl_Color_impl_Color_0 : Sat Tryz.prog rt0 126 (wkOut spHasC) := by
  refine fn_sat hm ttok (tab := tb126) tb126_ok Tryz.func126 (c := Tryz.f126.body.getD .skip) (by kernel_rfl) (ts := [.tmp 4]) (by kernel_rfl) Tryz.ntmps126 (sq := fun _ => true) (by kernel_rfl) ?_
  intro args ins pk hpre0 hpk
  obtain ⟨rfl, hpre0⟩ := hpre0
  obtain ⟨l, rfl, hpre, hdec⟩ := famPre_ex hpre0
  clear hpre0 hdec
  try simp only [spHasC_pre] at hpre
  replace hpk : pk + 0 ≤ pickLimit := hpk
  refine ⟨Nat.le_of_ble_eq_true rfl, ?_⟩
  simp (config := { maxSteps := 1000000 }) only [go_sem, ↓ifP_true, ↓ifP_false, ↓ifP_not, Nat.reduceLT, Nat.reduceAdd, Nat.reduceBEq, Nat.reduceSub, Nat.reduceLeDiff, Nat.reduceEqDiff, Nat.reduceMul, Int.reduceToNat, Int.reduceEq, Int.reduceLT, Int.reduceLE, Int.reduceAdd, Int.reduceSub, Int.reduceMul, reduceCtorEq, cond_true, cond_false, forall_eq', forall_eq, forall_const, implies_true, if_true, if_false, exists_eq_left', exists_eq', exists_eq, ne_eq, Tryz.f126, tb126_167, spHasC_q, spHasC_A, spHasC_pre, spHasC_post, spIdxC_q, spIdxC_A, spIdxC_pre, spIdxC_post]
  repeat' (first | apply And.intro | (intro _) | omega | assumption | with_reducible rfl)
  all_goals (first | (grind; done))
theorem sat_slices_ContainsFunc_impl_Color_impl_Color : Sat Tryz.prog rt0 126 (wkIn spHasC) := sat_in (sat_out sat_slices_ContainsFunc_impl_Color_impl_Color_0)
def spVFrm_A : Frm → List AV
  | f => [.agg (frC f)]
def spVFrm_pre : Frm → Prop
  | f => f.px.length ≤ 1000000000
def spVFrm_post : Frm → AV → List Box → Prop
  | f, r, bs => r = B (vFrm f) ∧ bs = []
def spVFrm : VE.Spec := famSpec spVFrm_A d_fr spVFrm_pre spVFrm_post 0 true
theorem spVFrm_q : spVFrm.flat = true ∧ spVFrm.mt = [] ∧ spVFrm.shut = false ∧ spVFrm.cost = 0 ∧ (∀ a i, spVFrm.pre a i = (i = [] ∧ famPre d_fr spVFrm_A spVFrm_pre a)) ∧ ∀ a i r b, spVFrm.post a i r b = (famPost d_fr spVFrm_post a r b) := ⟨rfl, rfl, rfl, rfl, fun _ _ => rfl, fun _ _ _ _ => rfl⟩
def tb77 : Nat → Option VE.Spec := tabOf [(52, wkIn spSzd), (126, wkIn spHasC)]
theorem tb77_52 : tb77 52 = some (wkIn spSzd) := rfl
theorem tb77_126 : tb77 126 = some (wkIn spHasC) := rfl
theorem tb77_ok : TabOK Tryz.prog rt0 tb77 := (tabOf_cons (by kernel_rfl) sat_impl_sized (tabOf_cons (by kernel_rfl) sat_slices_ContainsFunc_impl_Color_impl_Color tabOf_nil))
set_option maxHeartbeats 4000000 in
theorem sat_impl_Frame_valid_0 : Sat Tryz.prog rt0 77 (wkOut spVFrm) := by
  refine fn_sat hm ttok (tab := tb77) tb77_ok Tryz.func77 (c := Tryz.f77.body.getD .skip) (by kernel_rfl) (ts := [.tmp 2]) (by kernel_rfl) Tryz.ntmps77 (sq := fun _ => true) (by kernel_rfl) ?_
  intro args ins pk hpre0 hpk
  obtain ⟨rfl, hpre0⟩ := hpre0
  obtain ⟨f, rfl, hpre, hdec⟩ := famPre_ex hpre0
  clear hpre0 hdec
  try simp only [spVFrm_pre] at hpre
  replace hpk : pk + 0 ≤ pickLimit := hpk
  refine ⟨Nat.le_of_ble_eq_true rfl, ?_⟩
  simp (config := { maxSteps := 1000000 }) only [go_sem, ↓ifP_true, ↓ifP_false, ↓ifP_not, Nat.reduceLT, Nat.reduceAdd, Nat.reduceBEq, Nat.reduceSub, Nat.reduceLeDiff, Nat.reduceEqDiff, Nat.reduceMul, Int.reduceToNat, Int.reduceEq, Int.reduceLT, Int.reduceLE, Int.reduceAdd, Int.reduceSub, Int.reduceMul, reduceCtorEq, cond_true, cond_false, forall_eq', forall_eq, forall_const, implies_true, if_true, if_false, exists_eq_left', exists_eq', exists_eq, ne_eq, Tryz.f77, tb77_52, tb77_126, spVFrm_q, spVFrm_A, spVFrm_pre, spVFrm_post, spSzd_q, spSzd_A, spSzd_pre, spSzd_post, spHasC_q, spHasC_A, spHasC_pre, spHasC_post]
  repeat' (first | apply And.intro | (intro _) | omega | assumption | with_reducible rfl)
  all_goals (first | ((have h9 := wh_bd ‹szd f.w f.h = true›; omega); done) | ((simp [vFrm, *]; done); done) | (simp_all [vFrm]; done) | (grind [vFrm]; done))
theorem sat_impl_Frame_valid : Sat Tryz.prog rt0 77 (wkIn spVFrm) := sat_in (sat_out sat_impl_Frame_valid_0)
theorem frm_bad {f : Frm} {i : Int} {k : Colr} (h : f.px[i.toNat]? = some k) (hv : vCol k = false) : vFrm f = false := by
  have h9 := all_bad (p := vCol) h hv
  simp [vFrm, h9]
theorem frm_end {f : Frm} {i : Int} (h : ¬ i < (f.px.length : Int)) (h2 : (f.px.take i.toNat).all vCol = true) : f.px.all vCol = true := by rwa [takeA (by omega)] at h2
def tb80 : Nat → Option VE.Spec := tabOf [(130, wkIn spVCol), (91, wkIn spSzd)]
theorem tb80_130 : tb80 130 = some (wkIn spVCol) := rfl
theorem tb80_91 : tb80 91 = some (wkIn spSzd) := rfl
theorem tb80_ok : TabOK Tryz.prog rt0 tb80 := (tabOf_cons (by kernel_rfl) sat_spec_validColor (tabOf_cons (by kernel_rfl) sat_spec_validSize tabOf_nil))
set_option maxHeartbeats 4000000 in
theorem sat_spec_validFrame_0 : Sat Tryz.prog rt0 80 (wkOut spVFrm) := by
  refine fn_sat hm ttok (tab := tb80) tb80_ok Tryz.func80 (c := Tryz.f80.body.getD .skip) (by kernel_rfl) (ts := [.tmp 2]) (by kernel_rfl) Tryz.ntmps80 (sq := fun _ => true) (by kernel_rfl) ?_
  intro args ins pk hpre0 hpk
  obtain ⟨rfl, hpre0⟩ := hpre0
  obtain ⟨f, rfl, hpre, hdec⟩ := famPre_ex hpre0
  clear hpre0 hdec
  try simp only [spVFrm_pre] at hpre
  replace hpk : pk + 0 ≤ pickLimit := hpk
  refine ⟨Nat.le_of_ble_eq_true rfl, ?_⟩
  simp (config := { maxSteps := 1000000 }) only [go_sem, ↓ifP_true, ↓ifP_false, ↓ifP_not, Nat.reduceLT, Nat.reduceAdd, Nat.reduceBEq, Nat.reduceSub, Nat.reduceLeDiff, Nat.reduceEqDiff, Nat.reduceMul, Int.reduceToNat, Int.reduceEq, Int.reduceLT, Int.reduceLE, Int.reduceAdd, Int.reduceSub, Int.reduceMul, reduceCtorEq, cond_true, cond_false, forall_eq', forall_eq, forall_const, implies_true, if_true, if_false, exists_eq_left', exists_eq', exists_eq, ne_eq, Tryz.f80, tb80_130, tb80_91, spVFrm_q, spVFrm_A, spVFrm_pre, spVFrm_post, spVCol_q, spVCol_A, spVCol_pre, spVCol_post, spSzd_q, spSzd_A, spSzd_pre, spSzd_post]
  repeat' (first | apply And.intro | (intro _) | omega | assumption | with_reducible rfl)
  refine loopS (α := Int) false [0, 2, 3, 4, 5, 6, 7, 8, 9, 10, 11, 12, 13, 14, 15, 16, 17] (fun σ => []) (fun σ x => [(3, I x)]) (fun σ x => []) (fun i => 0) (fun σ => gI (σ.get 3)) (fun σ τ => []) (fun i => 0 ≤ i ∧ i ≤ f.px.length ∧ (f.px.take i.toNat).all vCol = true) (fun i => (f.px.length - i).toNat) ⟨by (simp (config := { maxSteps := 1000000 }) only [go_sem, ↓ifP_true, ↓ifP_false, ↓ifP_not, Nat.reduceLT, Nat.reduceAdd, Nat.reduceBEq, Nat.reduceSub, Nat.reduceLeDiff, Nat.reduceEqDiff, Nat.reduceMul, Int.reduceToNat, Int.reduceEq, Int.reduceLT, Int.reduceLE, Int.reduceAdd, Int.reduceSub, Int.reduceMul, reduceCtorEq, cond_true, cond_false, forall_eq', forall_eq, forall_const, implies_true, if_true, if_false, exists_eq_left', exists_eq', exists_eq, ne_eq, Tryz.f80, tb80_130, tb80_91, spVFrm_q, spVFrm_A, spVFrm_pre, spVFrm_post, spVCol_q, spVCol_A, spVCol_pre, spVCol_post, spSzd_q, spSzd_A, spSzd_pre, spSzd_post]; (repeat' (first | apply And.intro | (intro _) | omega | assumption | with_reducible rfl))), ?_⟩
  rintro i hinv
  try dsimp only at hinv
  rcases elemAt f.px i (by omega) with ⟨hlt, k, hk⟩ | hlt
  all_goals (first | ((have hlt2 := of_eq_true hlt); all_goals simp (config := { maxSteps := 1000000 }) only [go_sem, ↓ifP_true, ↓ifP_false, ↓ifP_not, Nat.reduceLT, Nat.reduceAdd, Nat.reduceBEq, Nat.reduceSub, Nat.reduceLeDiff, Nat.reduceEqDiff, Nat.reduceMul, Int.reduceToNat, Int.reduceEq, Int.reduceLT, Int.reduceLE, Int.reduceAdd, Int.reduceSub, Int.reduceMul, reduceCtorEq, cond_true, cond_false, forall_eq', forall_eq, forall_const, implies_true, if_true, if_false, exists_eq_left', exists_eq', exists_eq, ne_eq, Tryz.f80, tb80_130, tb80_91, spVFrm_q, spVFrm_A, spVFrm_pre, spVFrm_post, spVCol_q, spVCol_A, spVCol_pre, spVCol_post, spSzd_q, spSzd_A, spSzd_pre, spSzd_post, hlt, hk]) | (have hlt2 := of_eq_false hlt; simp (config := { maxSteps := 1000000 }) only [go_sem, ↓ifP_true, ↓ifP_false, ↓ifP_not, Nat.reduceLT, Nat.reduceAdd, Nat.reduceBEq, Nat.reduceSub, Nat.reduceLeDiff, Nat.reduceEqDiff, Nat.reduceMul, Int.reduceToNat, Int.reduceEq, Int.reduceLT, Int.reduceLE, Int.reduceAdd, Int.reduceSub, Int.reduceMul, reduceCtorEq, cond_true, cond_false, forall_eq', forall_eq, forall_const, implies_true, if_true, if_false, exists_eq_left', exists_eq', exists_eq, ne_eq, Tryz.f80, tb80_130, tb80_91, spVFrm_q, spVFrm_A, spVFrm_pre, spVFrm_post, spVCol_q, spVCol_A, spVCol_pre, spVCol_post, spSzd_q, spSzd_A, spSzd_pre, spSzd_post, hlt]))
  all_goals
    repeat' (first | apply And.intro | (intro _) | omega | assumption | with_reducible rfl)
  all_goals (first | ((have h9 := wh_bd ‹szd f.w f.h = true›; omega); done) | ((rw [takeN hk hinv.1, List.all_append, hinv.2.2]; simp [*]); done) | ((rw [frm_bad hk ‹_›]; rfl); done) | ((rw [frm_bad hk ‹_›]); done) | ((have h9 := frm_end hlt2 hinv.2.2; simp [vFrm, *]; done); done) | ((have h9 := frm_end hlt2 hinv.2.2; simp_all [vFrm]); done))
theorem sat_spec_validFrame : Sat Tryz.prog rt0 80 (wkIn spVFrm) := sat_in (sat_out sat_spec_validFrame_0)
end Go.Proofs.YtkhplopcjkkejaaGreat
end
section
set_option maxRecDepth 100000
set_option linter.unusedSimpArgs false
set_option linter.unusedVariables false
namespace Go.Proofs.YtkhplopcjkkejaaGreat
open Go Go.VE
theorem nil_ofC {l : List Colr} {b : Bool} (h : ¬ List.map coC l = [] → b = false) (hb : b = true) : l = [] := by
  by_cases e : List.map coC l = []
  · exact List.map_eq_nil_iff.1 e
  · rw [h e] at hb; cases hb
def spCloneC_A : (List Colr) → List AV
  | l => [.c (.sl false (l.map coC))]
def spCloneC_pre : (List Colr) → Prop
  | l => l.length ≤ 1000000000
def spCloneC_post : (List Colr) → AV → List Box → Prop
  | l, r, bs => r = .c (.own 0 (l).length false) ∧ bs = [⟨(l).map coC, 4, 29, true, false⟩]
def spCloneC : VE.Spec := famSpec spCloneC_A d_lco spCloneC_pre spCloneC_post 0 false
theorem spCloneC_q : spCloneC.flat = false ∧ spCloneC.mt = [] ∧ spCloneC.shut = false ∧ spCloneC.cost = 0 ∧ (∀ a i, spCloneC.pre a i = (i = [] ∧ famPre d_lco spCloneC_A spCloneC_pre a)) ∧ ∀ a i r b, spCloneC.post a i r b = (famPost d_lco spCloneC_post a r b) := ⟨rfl, rfl, rfl, rfl, fun _ _ => rfl, fun _ _ _ _ => rfl⟩
def tb129 : Nat → Option VE.Spec := tabOf []
theorem tb129_ok : TabOK Tryz.prog rt0 tb129 := tabOf_nil
set_option maxHeartbeats 4000000 in
theorem sat_slices_Clone_impl_Color_impl_Color_0 : Sat Tryz.prog rt0 129 (wkOut spCloneC) := by
  refine fn_sat hm ttok (tab := tb129) tb129_ok Tryz.func129 (c := Tryz.f129.body.getD .skip) (by kernel_rfl) (ts := [.tmp 2]) (by kernel_rfl) Tryz.ntmps129 (sq := fun _ => true) (by kernel_rfl) ?_
  intro args ins pk hpre0 hpk
  obtain ⟨rfl, hpre0⟩ := hpre0
  obtain ⟨l, rfl, hpre, hdec⟩ := famPre_ex hpre0
  clear hpre0 hdec
  try simp only [spCloneC_pre] at hpre
  replace hpk : pk + 0 ≤ pickLimit := hpk
  refine ⟨Nat.le_of_ble_eq_true rfl, ?_⟩
  simp (config := { maxSteps := 1000000 }) only [go_sem, ↓ifP_true, ↓ifP_false, ↓ifP_not, Nat.reduceLT, Nat.reduceAdd, Nat.reduceBEq, Nat.reduceSub, Nat.reduceLeDiff, Nat.reduceEqDiff, Nat.reduceMul, Int.reduceToNat, Int.reduceEq, Int.reduceLT, Int.reduceLE, Int.reduceAdd, Int.reduceSub, Int.reduceMul, reduceCtorEq, cond_true, cond_false, forall_eq', forall_eq, forall_const, implies_true, if_true, if_false, exists_eq_left', exists_eq', exists_eq, ne_eq, Tryz.f129, spCloneC_q, spCloneC_A, spCloneC_pre, spCloneC_post]
  repeat' (first | apply And.intro | (intro _) | omega | assumption | with_reducible rfl)
  all_goals (first | ((obtain rfl := nil_ofC (l := l) ‹_› ‹_›; rfl); done))
theorem sat_slices_Clone_impl_Color_impl_Color : Sat Tryz.prog rt0 129 (wkIn spCloneC) := sat_in (sat_out sat_slices_Clone_impl_Color_impl_Color_0)
def spClipC_A : List Colr → List AV := fun l => [.c (.own 0 l.length false)]
def spClipC_B : List Colr → List Box := fun l => [⟨l.map coC, 4, 29, true, false⟩]
def spClipC_d : List AV → List Box → Option (List Colr)
  | [.c (.own 0 _ false)], [⟨es, _, _, _, _⟩] => decAll coCd es
  | _, _ => none
def spClipC_pre : List Colr → Prop := fun l => l.length ≤ 1000000000
def spClipC_post : List Colr → AV → List Box → Prop := fun l r bs => r = .c (.own 0 (l).length false) ∧ bs = [⟨(l).map coC, 4, 29, true, false⟩]
def spClipC : VE.Spec := famSpecM spClipC_A spClipC_B spClipC_d spClipC_pre spClipC_post 0 false [true] false
theorem spClipC_q : spClipC.flat = false ∧ spClipC.mt = [true] ∧ spClipC.shut = false ∧ spClipC.cost = 0 ∧ (∀ a i, spClipC.pre a i = (famPreM spClipC_d spClipC_A spClipC_B spClipC_pre a i)) ∧ ∀ a i r b, spClipC.post a i r b = (famPostM spClipC_d spClipC_post a i r b) := ⟨rfl, rfl, rfl, rfl, fun _ _ => rfl, fun _ _ _ _ => rfl⟩
def tb128 : Nat → Option VE.Spec := tabOf []
theorem tb128_ok : TabOK Tryz.prog rt0 tb128 := tabOf_nil
set_option maxHeartbeats 4000000 in
theorem sat_slices_Clip_impl_Color_impl_Color_0 : Sat Tryz.prog rt0 128 (wkOut spClipC) := by
  refine fn_sat hm ttok (tab := tb128) tb128_ok Tryz.func128 (c := Tryz.f128.body.getD .skip) (by kernel_rfl) (ts := [.tmp 2]) (by kernel_rfl) Tryz.ntmps128 (sq := fun _ => true) (by kernel_rfl) ?_
  intro args ins pk hpre0 hpk
  obtain ⟨l, rfl, rfl, hpre, hdec⟩ := famPreM_ex hpre0
  clear hpre0 hdec
  try simp only [spClipC_pre] at hpre
  replace hpk : pk + 0 ≤ pickLimit := hpk
  refine ⟨Nat.le_of_ble_eq_true rfl, ?_⟩
  simp (config := { maxSteps := 1000000 }) only [go_sem, ↓ifP_true, ↓ifP_false, ↓ifP_not, Nat.reduceLT, Nat.reduceAdd, Nat.reduceBEq, Nat.reduceSub, Nat.reduceLeDiff, Nat.reduceEqDiff, Nat.reduceMul, Int.reduceToNat, Int.reduceEq, Int.reduceLT, Int.reduceLE, Int.reduceAdd, Int.reduceSub, Int.reduceMul, reduceCtorEq, cond_true, cond_false, forall_eq', forall_eq, forall_const, implies_true, if_true, if_false, exists_eq_left', exists_eq', exists_eq, ne_eq, Tryz.f128, spClipC_q, spClipC_A, spClipC_B, spClipC_d, spClipC_pre, spClipC_post]
  repeat' (first | apply And.intro | (intro _) | omega | assumption | with_reducible rfl)
  all_goals (first | (omega; done))
theorem sat_slices_Clip_impl_Color_impl_Color : Sat Tryz.prog rt0 128 (wkIn spClipC) := sat_in (sat_out sat_slices_Clip_impl_Color_impl_Color_0)
def tb78 : Nat → Option VE.Spec := tabOf [(129, wkIn spCloneC), (128, wkIn spClipC)]
theorem tb78_129 : tb78 129 = some (wkIn spCloneC) := rfl
theorem tb78_128 : tb78 128 = some (wkIn spClipC) := rfl
theorem tb78_ok : TabOK Tryz.prog rt0 tb78 := (tabOf_cons (by kernel_rfl) sat_slices_Clone_impl_Color_impl_Color (tabOf_cons (by kernel_rfl) sat_slices_Clip_impl_Color_impl_Color tabOf_nil))
set_option maxHeartbeats 4000000 in
theorem sat_impl_clone_impl_Color_0 : Sat Tryz.prog rt0 78 (wkOut spCloneC) := by
  refine fn_sat hm ttok (tab := tb78) tb78_ok Tryz.func78 (c := Tryz.f78.body.getD .skip) (by kernel_rfl) (ts := [.tmp 2]) (by kernel_rfl) Tryz.ntmps78 (sq := fun _ => true) (by kernel_rfl) ?_
  intro args ins pk hpre0 hpk
  obtain ⟨rfl, hpre0⟩ := hpre0
  obtain ⟨l, rfl, hpre, hdec⟩ := famPre_ex hpre0
  clear hpre0 hdec
  try simp only [spCloneC_pre] at hpre
  replace hpk : pk + 0 ≤ pickLimit := hpk
  refine ⟨Nat.le_of_ble_eq_true rfl, ?_⟩
  simp (config := { maxSteps := 1000000 }) only [go_sem, ↓ifP_true, ↓ifP_false, ↓ifP_not, Nat.reduceLT, Nat.reduceAdd, Nat.reduceBEq, Nat.reduceSub, Nat.reduceLeDiff, Nat.reduceEqDiff, Nat.reduceMul, Int.reduceToNat, Int.reduceEq, Int.reduceLT, Int.reduceLE, Int.reduceAdd, Int.reduceSub, Int.reduceMul, reduceCtorEq, cond_true, cond_false, forall_eq', forall_eq, forall_const, implies_true, if_true, if_false, exists_eq_left', exists_eq', exists_eq, ne_eq, Tryz.f78, tb78_129, tb78_128, spCloneC_q, spCloneC_A, spCloneC_pre, spCloneC_post, spClipC_q, spClipC_A, spClipC_B, spClipC_d, spClipC_pre, spClipC_post]
  repeat' (first | apply And.intro | (intro _) | omega | assumption | with_reducible rfl)
  all_goals (first | (omega; done))
theorem sat_impl_clone_impl_Color : Sat Tryz.prog rt0 78 (wkIn spCloneC) := sat_in (sat_out sat_impl_clone_impl_Color_0)
end Go.Proofs.YtkhplopcjkkejaaGreat
end
section
set_option maxRecDepth 100000
set_option linter.unusedSimpArgs false
set_option linter.unusedVariables false
namespace Go.Proofs.YtkhplopcjkkejaaGreat
open Go Go.VE
def spDT_A : Frm × Scn × Int → List AV
  | (f, s, t) => [.agg (frC f), .agg (scC s), I t]
def spDT_pre : Frm × Scn × Int → Prop
  | (f, s, t) => f.px.length ≤ 1000000000 ∧ okFs s.fs
def spDT_post : Frm × Scn × Int → AV → List Box → Prop
  | (f, s, t), r, bs => r = .tup [.agg (frC (dtF f s t)), B (okDT f s t)] ∧ bs = []
def spDT : VE.Spec := famSpecS spDT_A d_fr_sc_i spDT_pre spDT_post 0 false
theorem spDT_q : spDT.flat = false ∧ spDT.mt = [] ∧ spDT.shut = true ∧ spDT.cost = 0 ∧ (∀ a i, spDT.pre a i = (i = [] ∧ famPre d_fr_sc_i spDT_A spDT_pre a)) ∧ ∀ a i r b, spDT.post a i r b = (famPost d_fr_sc_i spDT_post a r b) := ⟨rfl, rfl, rfl, rfl, fun _ _ => rfl, fun _ _ _ _ => rfl⟩
def tb34 : Nat → Option VE.Spec := tabOf [(77, wkIn spVFrm), (17, wkIn spVScn), (78, wkIn spCloneC), (79, wkIn spFD)]
theorem tb34_77 : tb34 77 = some (wkIn spVFrm) := rfl
theorem tb34_17 : tb34 17 = some (wkIn spVScn) := rfl
theorem tb34_78 : tb34 78 = some (wkIn spCloneC) := rfl
theorem tb34_79 : tb34 79 = some (wkIn spFD) := rfl
theorem tb34_ok : TabOK Tryz.prog rt0 tb34 := (tabOf_cons (by kernel_rfl) sat_impl_Frame_valid (tabOf_cons (by kernel_rfl) sat_impl_ValidScene (tabOf_cons (by kernel_rfl) sat_impl_clone_impl_Color (tabOf_cons (by kernel_rfl) sat_impl_Frame_draw tabOf_nil))))
set_option maxHeartbeats 4000000 in
theorem sat_impl_DrawTile_0 : Sat Tryz.prog rt0 34 (wkOut spDT) := by
  refine fn_sat hm ttok (tab := tb34) tb34_ok Tryz.func34 (c := Tryz.f34.body.getD .skip) (by kernel_rfl) (ts := [.cell 6 61, .tmp 7]) (by kernel_rfl) Tryz.ntmps34 (sq := fun id => !(id == 3)) (by kernel_rfl) ?_
  intro args ins pk hpre0 hpk
  obtain ⟨rfl, hpre0⟩ := hpre0
  obtain ⟨⟨f, s, t⟩, rfl, hpre, hdec⟩ := famPre_ex hpre0
  clear hpre0 hdec
  try simp only [spDT_pre] at hpre
  replace hpk : pk + 0 ≤ pickLimit := hpk
  refine ⟨Nat.le_of_ble_eq_true rfl, ?_⟩
  simp (config := { maxSteps := 1000000 }) only [go_sem, ↓ifP_true, ↓ifP_false, ↓ifP_not, Nat.reduceLT, Nat.reduceAdd, Nat.reduceBEq, Nat.reduceSub, Nat.reduceLeDiff, Nat.reduceEqDiff, Nat.reduceMul, Int.reduceToNat, Int.reduceEq, Int.reduceLT, Int.reduceLE, Int.reduceAdd, Int.reduceSub, Int.reduceMul, reduceCtorEq, cond_true, cond_false, forall_eq', forall_eq, forall_const, implies_true, if_true, if_false, exists_eq_left', exists_eq', exists_eq, ne_eq, Tryz.f34, tb34_77, tb34_17, tb34_78, tb34_79, spDT_q, spDT_A, spDT_pre, spDT_post, spVFrm_q, spVFrm_A, spVFrm_pre, spVFrm_post, spVScn_q, spVScn_A, spVScn_pre, spVScn_post, spCloneC_q, spCloneC_A, spCloneC_pre, spCloneC_post, spFD_q, spFD_A, spFD_B, spFD_d, spFD_pre, spFD_post]
  repeat' (first | apply And.intro | (intro _) | omega | assumption | with_reducible rfl)
  all_goals try (refine drawI (VE.Plan.first 0 (VE.Plan.first 1 (VE.Plan.first 2 (VE.Plan.first 3 (VE.Plan.first 4 (VE.Plan.first 5 (VE.Plan.alt 6 (VE.Plan.first 7 (VE.Plan.alt 8 (VE.Plan.alt 9 VE.Plan.nil VE.Plan.nil) VE.Plan.nil)) (VE.Plan.alt 8 (VE.Plan.alt 6 (VE.Plan.first 7 (VE.Plan.alt 9 VE.Plan.nil VE.Plan.nil)) VE.Plan.nil) VE.Plan.nil)))))))) (by decide +kernel) ?_; simp (config := { maxSteps := 1000000 }) only [go_sem, ↓ifP_true, ↓ifP_false, ↓ifP_not, Nat.reduceLT, Nat.reduceAdd, Nat.reduceBEq, Nat.reduceSub, Nat.reduceLeDiff, Nat.reduceEqDiff, Nat.reduceMul, Int.reduceToNat, Int.reduceEq, Int.reduceLT, Int.reduceLE, Int.reduceAdd, Int.reduceSub, Int.reduceMul, reduceCtorEq, cond_true, cond_false, forall_eq', forall_eq, forall_const, implies_true, if_true, if_false, exists_eq_left', exists_eq', exists_eq, ne_eq, planW, stepW, Tryz.f34, tb34_77, tb34_17, tb34_78, tb34_79, spDT_q, spDT_A, spDT_pre, spDT_post, spVFrm_q, spVFrm_A, spVFrm_pre, spVFrm_post, spVScn_q, spVScn_A, spVScn_pre, spVScn_post, spCloneC_q, spCloneC_A, spCloneC_pre, spCloneC_post, spFD_q, spFD_A, spFD_B, spFD_d, spFD_pre, spFD_post]; repeat' (first | apply And.intro | (intro _) | omega | assumption | with_reducible rfl))
  all_goals (first | (exact hpre.2; done) | ((have h9 := (vFrm_parts ‹vFrm f = true›).2.1; rw [‹f.w = s.w›, ‹f.h = s.h›] at h9; exact h9); done) | ((rw [tileP_len]); done) | ((rw [dt_yes (okDT_of ‹_› ‹_› ‹_› ‹_› ‹_›)]; rfl); done) | (exact (okDT_of ‹_› ‹_› ‹_› ‹_› ‹_›).symm; done) | ((rw [dt_no (dt_n1 ‹_›)]; rfl); done) | ((rw [dt_no (dt_n2 ‹_›)]; rfl); done) | ((rw [dt_no (dt_n3 ‹_›)]; rfl); done) | ((rw [dt_no (dt_n4 ‹_›)]; rfl); done) | ((rw [dt_no (dt_n5 ‹_›)]; rfl); done) | (exact (dt_n1 ‹_›).symm; done) | (exact (dt_n2 ‹_›).symm; done) | (exact (dt_n3 ‹_›).symm; done) | (exact (dt_n4 ‹_›).symm; done) | (exact (dt_n5 ‹_›).symm; done))
theorem sat_impl_DrawTile : Sat Tryz.prog rt0 34 (wkIn spDT) := sat_in (sat_out sat_impl_DrawTile_0)
end Go.Proofs.YtkhplopcjkkejaaGreat
end
section
set_option maxRecDepth 100000
set_option linter.unusedSimpArgs false
set_option linter.unusedVariables false
namespace Go.Proofs.YtkhplopcjkkejaaGreat
open Go Go.VE
theorem isT_in {w h t : Int} (hz : szd w h = true) (h1 : 0 ≤ t) (h2 : t ≤ acr w * acr h - 1) : isT w h t = true := by
  rw [isT, hz, decide_eq_true (And.intro h1 (by omega))]; rfl
theorem isT_out {w h t : Int} (h1 : ¬ (0 ≤ t ∧ t ≤ acr w * acr h - 1)) : isT w h t = false := by
  rw [isT, decide_eq_false (by omega), Bool.and_false]
def tb35 : Nat → Option VE.Spec := tabOf [(80, wkIn spVFrm), (49, wkIn spVScn), (81, wkIn spTiles), (50, wkIn spIn), (82, wkIn spTilP)]
theorem tb35_80 : tb35 80 = some (wkIn spVFrm) := rfl
theorem tb35_49 : tb35 49 = some (wkIn spVScn) := rfl
theorem tb35_81 : tb35 81 = some (wkIn spTiles) := rfl
theorem tb35_50 : tb35 50 = some (wkIn spIn) := rfl
theorem tb35_82 : tb35 82 = some (wkIn spTilP) := rfl
theorem tb35_ok : TabOK Tryz.prog rt0 tb35 := (tabOf_cons (by kernel_rfl) sat_spec_validFrame (tabOf_cons (by kernel_rfl) sat_spec_validScene (tabOf_cons (by kernel_rfl) sat_spec_tiles (tabOf_cons (by kernel_rfl) sat_spec_inRange (tabOf_cons (by kernel_rfl) sat_spec_tilePixels tabOf_nil)))))
set_option maxHeartbeats 4000000 in
theorem sat_spec_DrawTile_0 : Sat Tryz.prog rt0 35 (wkOut spDT) := by
  refine fn_sat hm ttok (tab := tb35) tb35_ok Tryz.func35 (c := Tryz.f35.body.getD .skip) (by kernel_rfl) (ts := [.cell 6 61, .tmp 7]) (by kernel_rfl) Tryz.ntmps35 (sq := fun _ => true) (by kernel_rfl) ?_
  intro args ins pk hpre0 hpk
  obtain ⟨rfl, hpre0⟩ := hpre0
  obtain ⟨⟨f, s, t⟩, rfl, hpre, hdec⟩ := famPre_ex hpre0
  clear hpre0 hdec
  try simp only [spDT_pre] at hpre
  replace hpk : pk + 0 ≤ pickLimit := hpk
  refine ⟨Nat.le_of_ble_eq_true rfl, ?_⟩
  simp (config := { maxSteps := 1000000 }) only [go_sem, ↓ifP_true, ↓ifP_false, ↓ifP_not, Nat.reduceLT, Nat.reduceAdd, Nat.reduceBEq, Nat.reduceSub, Nat.reduceLeDiff, Nat.reduceEqDiff, Nat.reduceMul, Int.reduceToNat, Int.reduceEq, Int.reduceLT, Int.reduceLE, Int.reduceAdd, Int.reduceSub, Int.reduceMul, reduceCtorEq, cond_true, cond_false, forall_eq', forall_eq, forall_const, implies_true, if_true, if_false, exists_eq_left', exists_eq', exists_eq, ne_eq, Tryz.f35, tb35_80, tb35_49, tb35_81, tb35_50, tb35_82, spDT_q, spDT_A, spDT_pre, spDT_post, spVFrm_q, spVFrm_A, spVFrm_pre, spVFrm_post, spVScn_q, spVScn_A, spVScn_pre, spVScn_post, spTiles_q, spTiles_A, spTiles_pre, spTiles_post, spIn_q, spIn_A, spIn_pre, spIn_post, spTilP_q, spTilP_A, spTilP_pre, spTilP_post]
  repeat' (first | apply And.intro | (intro _) | omega | assumption | with_reducible rfl)
  all_goals (first | (exact hpre.2; done) | (exact (vScn_parts ‹vScn s = true›).1; done) | ((have h9 := acr_mul (vScn_parts ‹vScn s = true›).1; omega); done) | (exact isT_in (vScn_parts ‹vScn s = true›).1 ‹_› ‹_›; done) | ((have h9 := (vFrm_parts ‹vFrm f = true›).2.1; rw [‹f.w = s.w›, ‹f.h = s.h›] at h9; exact h9); done) | ((rw [dt_yes (okDT_of ‹_› ‹_› ‹_› ‹_› (isT_in (vScn_parts ‹vScn s = true›).1 ‹_› ‹_›))]; rfl); done) | (exact (okDT_of ‹_› ‹_› ‹_› ‹_› (isT_in (vScn_parts ‹vScn s = true›).1 ‹_› ‹_›)).symm; done) | ((rw [dt_no (dt_n5 (isT_out ‹_›))]; rfl); done) | (exact (dt_n5 (isT_out ‹_›)).symm; done) | ((rw [dt_no (dt_n1 ‹_›)]; rfl); done) | ((rw [dt_no (dt_n2 ‹_›)]; rfl); done) | ((rw [dt_no (dt_n3 ‹_›)]; rfl); done) | ((rw [dt_no (dt_n4 ‹_›)]; rfl); done) | (exact (dt_n1 ‹_›).symm; done) | (exact (dt_n2 ‹_›).symm; done) | (exact (dt_n3 ‹_›).symm; done) | (exact (dt_n4 ‹_›).symm; done))
theorem sat_spec_DrawTile : Sat Tryz.prog rt0 35 (wkIn spDT) := sat_in (sat_out sat_spec_DrawTile_0)
end Go.Proofs.YtkhplopcjkkejaaGreat
end
section
set_option maxRecDepth 100000
set_option linter.unusedSimpArgs false
set_option linter.unusedVariables false
namespace Go.Proofs.YtkhplopcjkkejaaGreat
open Go Go.VE
theorem wh169 {w h : Int} (hw : 0 ≤ w ∧ w ≤ 13) (hh : 0 ≤ h ∧ h ≤ 13) : 0 ≤ w * h ∧ w * h ≤ 169 := ⟨Int.mul_nonneg hw.1 hh.1, by have := Int.mul_le_mul hw.2 hh.2 hh.1 (by omega); omega⟩
theorem ex_frm {w h : Int} {l : List Colr} (hl : l.length ≤ 200) : ∃ f : Frm, [C.v (.int .i64 w), C.v (.int .i64 h), C.sl false (List.map coC l)] = frC f ∧ f.px.length ≤ 200 := ⟨⟨w, h, l⟩, rfl, hl⟩
theorem ex_frm2 {w h : Int} {l : List Colr} {c : Colr} (hl : l.length ≤ 200) : ∃ f : Frm, [C.v (.int .i64 w), C.v (.int .i64 h), C.sl false (wkEs ((List.map coC l).set 0 (coC c)))] = frC f ∧ f.px.length ≤ 200 := ⟨⟨w, h, l.set 0 c⟩, by rw [← List.map_set, coC_wks]; rfl, by simpa using hl⟩
theorem ex_frm3 {w h : Int} {l : List Colr} {c : Colr} (hl : l.length ≤ 200) : ∃ f : Frm, [C.v (.int .i64 w), C.v (.int .i64 h), C.sl false ((List.map coC l).set 0 (coC c))] = frC f ∧ f.px.length ≤ 200 := ⟨⟨w, h, l.set 0 c⟩, by rw [← List.map_set]; rfl, by simpa using hl⟩
def spSFrm_A : Int × Int → List AV
  | (w, h) => [.c .rdr, I w, I h]
def spSFrm_pre : Int × Int → Prop
  | (w, h) => (0 ≤ w ∧ w ≤ 13) ∧ 0 ≤ h ∧ h ≤ 13
def spSFrm_post : Int × Int → AV → List Box → Prop
  | (w, h), r, bs => ∃ f : Frm, r = .agg (frC f) ∧ bs = [] ∧ f.px.length ≤ 200
def spSFrm : VE.Spec := famSpecS spSFrm_A d_r_i_i spSFrm_pre spSFrm_post 1300 false
theorem spSFrm_q : spSFrm.flat = false ∧ spSFrm.mt = [] ∧ spSFrm.shut = true ∧ spSFrm.cost = 1300 ∧ (∀ a i, spSFrm.pre a i = (i = [] ∧ famPre d_r_i_i spSFrm_A spSFrm_pre a)) ∧ ∀ a i r b, spSFrm.post a i r b = (famPost d_r_i_i spSFrm_post a r b) := ⟨rfl, rfl, rfl, rfl, fun _ _ => rfl, fun _ _ _ _ => rfl⟩
def tb76 : Nat → Option VE.Spec := tabOf [(90, wkIn spPick), (124, wkIn spRCol), (125, wkIn spACol)]
theorem tb76_90 : tb76 90 = some (wkIn spPick) := rfl
theorem tb76_124 : tb76 124 = some (wkIn spRCol) := rfl
theorem tb76_125 : tb76 125 = some (wkIn spACol) := rfl
theorem tb76_ok : TabOK Tryz.prog rt0 tb76 := (tabOf_cons (by kernel_rfl) sat_spec_reader_pick (tabOf_cons (by kernel_rfl) sat_spec_randomColor (tabOf_cons (by kernel_rfl) sat_spec_anyColor tabOf_nil)))
set_option maxHeartbeats 4000000 in
theorem sat_spec_someFrame_0 : Sat Tryz.prog rt0 76 (wkOut spSFrm) := by
  refine fn_sat hm ttok (tab := tb76) tb76_ok Tryz.func76 (c := Tryz.f76.body.getD .skip) (by kernel_rfl) (ts := [.cell 6 61]) (by kernel_rfl) Tryz.ntmps76 (sq := fun _ => true) (by kernel_rfl) ?_
  intro args ins pk hpre0 hpk
  obtain ⟨rfl, hpre0⟩ := hpre0
  obtain ⟨⟨w, h⟩, rfl, hpre, hdec⟩ := famPre_ex hpre0
  clear hpre0 hdec
  try simp only [spSFrm_pre] at hpre
  replace hpk : pk + 1300 ≤ pickLimit := hpk
  refine ⟨Nat.le_of_ble_eq_true rfl, ?_⟩
  have hwh := wh169 hpre.1 hpre.2
  simp (config := { maxSteps := 1000000 }) only [go_sem, ↓ifP_true, ↓ifP_false, ↓ifP_not, Nat.reduceLT, Nat.reduceAdd, Nat.reduceBEq, Nat.reduceSub, Nat.reduceLeDiff, Nat.reduceEqDiff, Nat.reduceMul, Int.reduceToNat, Int.reduceEq, Int.reduceLT, Int.reduceLE, Int.reduceAdd, Int.reduceSub, Int.reduceMul, reduceCtorEq, cond_true, cond_false, forall_eq', forall_eq, forall_const, implies_true, if_true, if_false, exists_eq_left', exists_eq', exists_eq, ne_eq, Tryz.f76, tb76_90, tb76_124, tb76_125, spSFrm_q, spSFrm_A, spSFrm_pre, spSFrm_post, spPick_q, spPick_A, spPick_pre, spPick_post, spRCol_q, spRCol_A, spRCol_pre, spRCol_post, spACol_q, spACol_A, spACol_pre, spACol_post, Picks]
  repeat' (first | apply And.intro | (intro _) | omega | assumption | with_reducible rfl)
  any_goals
    refine loopS (α := (List Colr) × Int) false [3, 4, 5, 7, 8, 10, 11, 12, 13, 14, 15, 16, 17, 18, 19, 20, 21, 22, 23, 24, 25, 26, 27, 28, 29, 30, 31, 32, 33, 34, 35, 36, 37, 44, 50, 55] (fun σ => [gId (σ.get 7)]) (fun σ x => [(7, .c (.own (gId (σ.get 7)) (x.1).length false)), (8, I x.2)]) (fun σ x => [(gId (σ.get 7), some ⟨(x.1).map coC, 4, 29, true, false⟩)]) (fun (o, i) => 6 * o.length) (fun σ => (gL coCd σ (σ.get 7), gI (σ.get 8))) (fun σ τ => [(gId (σ.get 7), gId (τ.get 7))]) (fun (o, i) => (0 ≤ i ∧ i ≤ w * h) ∧ (o.length : Int) = i) (fun (o, i) => (w * h - i).toNat) ⟨by (simp (config := { maxSteps := 1000000 }) only [go_sem, ↓ifP_true, ↓ifP_false, ↓ifP_not, Nat.reduceLT, Nat.reduceAdd, Nat.reduceBEq, Nat.reduceSub, Nat.reduceLeDiff, Nat.reduceEqDiff, Nat.reduceMul, Int.reduceToNat, Int.reduceEq, Int.reduceLT, Int.reduceLE, Int.reduceAdd, Int.reduceSub, Int.reduceMul, reduceCtorEq, cond_true, cond_false, forall_eq', forall_eq, forall_const, implies_true, if_true, if_false, exists_eq_left', exists_eq', exists_eq, ne_eq, Tryz.f76, tb76_90, tb76_124, tb76_125, spSFrm_q, spSFrm_A, spSFrm_pre, spSFrm_post, spPick_q, spPick_A, spPick_pre, spPick_post, spRCol_q, spRCol_A, spRCol_pre, spRCol_post, spACol_q, spACol_A, spACol_pre, spACol_post, Picks]; (repeat' (first | apply And.intro | (intro _) | omega | assumption | with_reducible rfl)); all_goals (first | omega)), ?_⟩
    rintro ⟨o, i⟩ hinv
    try dsimp only at hinv
    simp (config := { maxSteps := 1000000 }) only [go_sem, ↓ifP_true, ↓ifP_false, ↓ifP_not, Nat.reduceLT, Nat.reduceAdd, Nat.reduceBEq, Nat.reduceSub, Nat.reduceLeDiff, Nat.reduceEqDiff, Nat.reduceMul, Int.reduceToNat, Int.reduceEq, Int.reduceLT, Int.reduceLE, Int.reduceAdd, Int.reduceSub, Int.reduceMul, reduceCtorEq, cond_true, cond_false, forall_eq', forall_eq, forall_const, implies_true, if_true, if_false, exists_eq_left', exists_eq', exists_eq, ne_eq, Tryz.f76, tb76_90, tb76_124, tb76_125, spSFrm_q, spSFrm_A, spSFrm_pre, spSFrm_post, spPick_q, spPick_A, spPick_pre, spPick_post, spRCol_q, spRCol_A, spRCol_pre, spRCol_post, spACol_q, spACol_A, spACol_pre, spACol_post, Picks]
    repeat' (first | apply And.intro | (intro _) | omega | assumption | with_reducible rfl)
  
  all_goals (first | (omega; done) | (exact ex_frm (by omega); done) | (exact ex_frm2 (by omega); done) | (exact ex_frm3 (by omega); done))
theorem sat_spec_someFrame : Sat Tryz.prog rt0 76 (wkIn spSFrm) := sat_in (sat_out sat_spec_someFrame_0)
end Go.Proofs.YtkhplopcjkkejaaGreat
end
section
set_option maxRecDepth 100000
set_option linter.unusedSimpArgs false
set_option linter.unusedVariables false
namespace Go.Proofs.YtkhplopcjkkejaaGreat
open Go Go.VE
def spDDT_A : (List UInt8) → List AV
  | code => [.c (.sl false (byC code))]
def spDDT_pre : (List UInt8) → Prop
  | code => code.length ≤ 1048576
def spDDT_post : (List UInt8) → AV → List Box → Prop
  | code, r, bs => ∃ f s t, r = .tup [.agg (frC f), .agg (scC s), I t] ∧ bs = [] ∧ f.px.length ≤ 200 ∧ okScn s
def spDDT : VE.Spec := famSpecS spDDT_A d_ly spDDT_pre spDDT_post 2700 false
theorem spDDT_q : spDDT.flat = false ∧ spDDT.mt = [] ∧ spDDT.shut = true ∧ spDDT.cost = 2700 ∧ (∀ a i, spDDT.pre a i = (i = [] ∧ famPre d_ly spDDT_A spDDT_pre a)) ∧ ∀ a i r b, spDDT.post a i r b = (famPost d_ly spDDT_post a r b) := ⟨rfl, rfl, rfl, rfl, fun _ _ => rfl, fun _ _ _ _ => rfl⟩
def tb33 : Nat → Option VE.Spec := tabOf [(44, wkIn spNew), (45, wkIn spAScn), (76, wkIn spSFrm), (46, wkIn spOne)]
theorem tb33_44 : tb33 44 = some (wkIn spNew) := rfl
theorem tb33_45 : tb33 45 = some (wkIn spAScn) := rfl
theorem tb33_76 : tb33 76 = some (wkIn spSFrm) := rfl
theorem tb33_46 : tb33 46 = some (wkIn spOne) := rfl
theorem tb33_ok : TabOK Tryz.prog rt0 tb33 := (tabOf_cons (by kernel_rfl) sat_spec_newReader (tabOf_cons (by kernel_rfl) sat_spec_anyScene (tabOf_cons (by kernel_rfl) sat_spec_someFrame (tabOf_cons (by kernel_rfl) sat_spec_reader_one tabOf_nil))))
set_option maxHeartbeats 4000000 in
theorem sat_spec_DrawDrawTile_0 : Sat Tryz.prog rt0 33 (wkOut spDDT) := by
  refine fn_sat hm ttok (tab := tb33) tb33_ok Tryz.func33 (c := Tryz.f33.body.getD .skip) (by kernel_rfl) (ts := [.cell 2 61, .cell 3 25, .tmp 4]) (by kernel_rfl) Tryz.ntmps33 (sq := fun id => !(id == 4)) (by kernel_rfl) ?_
  intro args ins pk hpre0 hpk
  obtain ⟨rfl, hpre0⟩ := hpre0
  obtain ⟨code, rfl, hpre, hdec⟩ := famPre_ex hpre0
  clear hpre0 hdec
  try simp only [spDDT_pre] at hpre
  replace hpk : pk + 2700 ≤ pickLimit := hpk
  refine ⟨Nat.le_of_ble_eq_true rfl, ?_⟩
  simp (config := { maxSteps := 1000000 }) only [go_sem, ↓ifP_true, ↓ifP_false, ↓ifP_not, Nat.reduceLT, Nat.reduceAdd, Nat.reduceBEq, Nat.reduceSub, Nat.reduceLeDiff, Nat.reduceEqDiff, Nat.reduceMul, Int.reduceToNat, Int.reduceEq, Int.reduceLT, Int.reduceLE, Int.reduceAdd, Int.reduceSub, Int.reduceMul, reduceCtorEq, cond_true, cond_false, forall_eq', forall_eq, forall_const, implies_true, if_true, if_false, exists_eq_left', exists_eq', exists_eq, ne_eq, Tryz.f33, tb33_44, tb33_45, tb33_76, tb33_46, spDDT_q, spDDT_A, spDDT_pre, spDDT_post, spNew_q, spAScn_q, spAScn_A, spAScn_pre, spAScn_post, spSFrm_q, spSFrm_A, spSFrm_pre, spSFrm_post, spOne_q, spOne_A, spOne_pre, spOne_post]
  repeat' (first | apply And.intro | (intro _) | omega | assumption | with_reducible rfl)
  all_goals try (refine drawI (VE.Plan.first 0 (VE.Plan.first 2 (VE.Plan.alt 1 (VE.Plan.alt 3 (VE.Plan.alt 4 (VE.Plan.alt 5 (VE.Plan.alt 6 (VE.Plan.alt 7 VE.Plan.nil VE.Plan.nil) VE.Plan.nil) VE.Plan.nil) VE.Plan.nil) VE.Plan.nil) (VE.Plan.alt 3 (VE.Plan.alt 1 (VE.Plan.alt 4 (VE.Plan.alt 5 (VE.Plan.alt 6 (VE.Plan.alt 7 VE.Plan.nil VE.Plan.nil) VE.Plan.nil) VE.Plan.nil) VE.Plan.nil) (VE.Plan.alt 4 (VE.Plan.alt 1 (VE.Plan.alt 5 (VE.Plan.alt 6 (VE.Plan.alt 7 VE.Plan.nil VE.Plan.nil) VE.Plan.nil) VE.Plan.nil) (VE.Plan.alt 5 (VE.Plan.first 1 (VE.Plan.alt 6 (VE.Plan.alt 7 VE.Plan.nil VE.Plan.nil) VE.Plan.nil)) VE.Plan.nil)) VE.Plan.nil)) VE.Plan.nil)))) (by decide +kernel) ?_; simp (config := { maxSteps := 1000000 }) only [go_sem, ↓ifP_true, ↓ifP_false, ↓ifP_not, Nat.reduceLT, Nat.reduceAdd, Nat.reduceBEq, Nat.reduceSub, Nat.reduceLeDiff, Nat.reduceEqDiff, Nat.reduceMul, Int.reduceToNat, Int.reduceEq, Int.reduceLT, Int.reduceLE, Int.reduceAdd, Int.reduceSub, Int.reduceMul, reduceCtorEq, cond_true, cond_false, forall_eq', forall_eq, forall_const, implies_true, if_true, if_false, exists_eq_left', exists_eq', exists_eq, ne_eq, planW, stepW, Tryz.f33, tb33_44, tb33_45, tb33_76, tb33_46, spDDT_q, spDDT_A, spDDT_pre, spDDT_post, spNew_q, spAScn_q, spAScn_A, spAScn_pre, spAScn_post, spSFrm_q, spSFrm_A, spSFrm_pre, spSFrm_post, spOne_q, spOne_A, spOne_pre, spOne_post]; repeat' (first | apply And.intro | (intro _) | omega | assumption | with_reducible rfl))
  all_goals (first | (exact ⟨_, _, rfl, rfl, hpre⟩; done) | (exact trivial; done) | (assumption; done) | (exact (‹okScn _›).w.1; done) | (exact (‹okScn _›).w.2; done) | (exact (‹okScn _›).h.1; done) | (exact (‹okScn _›).h.2; done) | (exact ⟨_, _, _, rfl, rfl, rfl, rfl, by assumption, ‹okScn _›⟩; done) | (exact ⟨_, _, _, rfl, rfl, rfl, by assumption, ‹okScn _›⟩; done) | (rfl; done) | ((simp (config := { maxSteps := 1000000 }) only [go_sem, ↓ifP_true, ↓ifP_false, ↓ifP_not, Nat.reduceLT, Nat.reduceAdd, Nat.reduceBEq, Nat.reduceSub, Nat.reduceLeDiff, Nat.reduceEqDiff, Nat.reduceMul, Int.reduceToNat, Int.reduceEq, Int.reduceLT, Int.reduceLE, Int.reduceAdd, Int.reduceSub, Int.reduceMul, reduceCtorEq, cond_true, cond_false, forall_eq', forall_eq, forall_const, implies_true, if_true, if_false, exists_eq_left', exists_eq', exists_eq, ne_eq]; done); done))
theorem sat_spec_DrawDrawTile : Sat Tryz.prog rt0 33 (wkIn spDDT) := sat_in (sat_out sat_spec_DrawDrawTile_0)
end Go.Proofs.YtkhplopcjkkejaaGreat
end
section
set_option maxRecDepth 100000
set_option linter.unusedSimpArgs false
set_option linter.unusedVariables false
namespace Go.Proofs.YtkhplopcjkkejaaGreat
open Go Go.VE
theorem frm_eq {a b : Frm} (h1 : a.w = b.w) (h2 : a.h = b.h) (h3 : a.px = b.px) : a = b := by
  obtain ⟨_, _, _⟩ := a
  obtain ⟨_, _, _⟩ := b
  dsimp only at h1 h2 h3
  rw [h1, h2, h3]
theorem frm_dec (a b : Frm) : decide (a = b) = (decide (a.w = b.w) && (decide (a.h = b.h) && decide (a.px = b.px))) := by
  by_cases h1 : a.w = b.w
  · by_cases h2 : a.h = b.h
    · by_cases h3 : a.px = b.px
      · simp [h1, h2, h3, frm_eq h1 h2 h3]
      · have : ¬ a = b := fun e => h3 (by rw [e])
        simp [h1, h2, h3, this]
    · have : ¬ a = b := fun e => h2 (by rw [e])
      simp [h2, this]
  · have : ¬ a = b := fun e => h1 (by rw [e])
    simp [h1, this]
def spEqF_A : Frm × Frm → List AV
  | (a, b) => [.agg (frC a), .agg (frC b)]
def spEqF_pre : Frm × Frm → Prop
  | (a, b) => a.px.length ≤ 1000000000 ∧ b.px.length ≤ 1000000000
def spEqF_post : Frm × Frm → AV → List Box → Prop
  | (a, b), r, bs => r = B (decide (a = b)) ∧ bs = []
def spEqF : VE.Spec := famSpec spEqF_A d_fr_fr spEqF_pre spEqF_post 0 true
theorem spEqF_q : spEqF.flat = true ∧ spEqF.mt = [] ∧ spEqF.shut = false ∧ spEqF.cost = 0 ∧ (∀ a i, spEqF.pre a i = (i = [] ∧ famPre d_fr_fr spEqF_A spEqF_pre a)) ∧ ∀ a i r b, spEqF.post a i r b = (famPost d_fr_fr spEqF_post a r b) := ⟨rfl, rfl, rfl, rfl, fun _ _ => rfl, fun _ _ _ _ => rfl⟩
def tb36 : Nat → Option VE.Spec := tabOf [(26, wkIn spEqC)]
theorem tb36_26 : tb36 26 = some (wkIn spEqC) := rfl
theorem tb36_ok : TabOK Tryz.prog rt0 tb36 := (tabOf_cons (by kernel_rfl) sat_laws_equalColors tabOf_nil)
set_option maxHeartbeats 4000000 in
theorem sat_laws_equalFrame_0 : Sat Tryz.prog rt0 36 (wkOut spEqF) := by
  refine fn_sat hm ttok (tab := tb36) tb36_ok Tryz.func36 (c := Tryz.f36.body.getD .skip) (by kernel_rfl) (ts := [.tmp 4]) (by kernel_rfl) Tryz.ntmps36 (sq := fun _ => true) (by kernel_rfl) ?_
  intro args ins pk hpre0 hpk
  obtain ⟨rfl, hpre0⟩ := hpre0
  obtain ⟨⟨a, b⟩, rfl, hpre, hdec⟩ := famPre_ex hpre0
  clear hpre0 hdec
  try simp only [spEqF_pre] at hpre
  replace hpk : pk + 0 ≤ pickLimit := hpk
  refine ⟨Nat.le_of_ble_eq_true rfl, ?_⟩
  simp (config := { maxSteps := 1000000 }) only [go_sem, ↓ifP_true, ↓ifP_false, ↓ifP_not, Nat.reduceLT, Nat.reduceAdd, Nat.reduceBEq, Nat.reduceSub, Nat.reduceLeDiff, Nat.reduceEqDiff, Nat.reduceMul, Int.reduceToNat, Int.reduceEq, Int.reduceLT, Int.reduceLE, Int.reduceAdd, Int.reduceSub, Int.reduceMul, reduceCtorEq, cond_true, cond_false, forall_eq', forall_eq, forall_const, implies_true, if_true, if_false, exists_eq_left', exists_eq', exists_eq, ne_eq, Tryz.f36, tb36_26, spEqF_q, spEqF_A, spEqF_pre, spEqF_post, spEqC_q, spEqC_A, spEqC_pre, spEqC_post]
  repeat' (first | apply And.intro | (intro _) | omega | assumption | with_reducible rfl)
  all_goals (first | (omega; done) | ((rw [frm_dec]; simp [*]; done); done) | ((rw [frm_dec]; simp_all); done))
theorem sat_laws_equalFrame : Sat Tryz.prog rt0 36 (wkIn spEqF) := sat_in (sat_out sat_laws_equalFrame_0)
end Go.Proofs.YtkhplopcjkkejaaGreat
end
section
set_option maxRecDepth 100000
set_option linter.unusedSimpArgs false
set_option linter.unusedVariables false
namespace Go.Proofs.YtkhplopcjkkejaaGreat
open Go Go.VE
def tb84 : Nat → Option VE.Spec := tabOf [(132, wkIn spIsU)]
theorem tb84_132 : tb84 132 = some (wkIn spIsU) := rfl
theorem tb84_ok : TabOK Tryz.prog rt0 tb84 := (tabOf_cons (by kernel_rfl) sat_impl_isUnit tabOf_nil)
set_option maxHeartbeats 4000000 in
theorem sat_impl_Box_valid_0 : Sat Tryz.prog rt0 84 (wkOut spVBx) := by
  refine fn_sat hm ttok (tab := tb84) tb84_ok Tryz.func84 (c := Tryz.f84.body.getD .skip) (by kernel_rfl) (ts := [.tmp 2]) (by kernel_rfl) Tryz.ntmps84 (sq := fun _ => true) (by kernel_rfl) ?_
  intro args ins pk hpre0 hpk
  obtain ⟨rfl, hpre0⟩ := hpre0
  obtain ⟨b, rfl, hpre, hdec⟩ := famPre_ex hpre0
  clear hpre0 hdec
  try simp only [spVBx_pre] at hpre
  replace hpk : pk + 0 ≤ pickLimit := hpk
  refine ⟨Nat.le_of_ble_eq_true rfl, ?_⟩
  simp (config := { maxSteps := 1000000 }) only [go_sem, ↓ifP_true, ↓ifP_false, ↓ifP_not, Nat.reduceLT, Nat.reduceAdd, Nat.reduceBEq, Nat.reduceSub, Nat.reduceLeDiff, Nat.reduceEqDiff, Nat.reduceMul, Int.reduceToNat, Int.reduceEq, Int.reduceLT, Int.reduceLE, Int.reduceAdd, Int.reduceSub, Int.reduceMul, reduceCtorEq, cond_true, cond_false, forall_eq', forall_eq, forall_const, implies_true, if_true, if_false, exists_eq_left', exists_eq', exists_eq, ne_eq, Tryz.f84, tb84_132, spVBx_q, spVBx_A, spVBx_pre, spVBx_post, spIsU_q, spIsU_A, spIsU_pre, spIsU_post, vBx, isU]
  repeat' (first | apply And.intro | (intro _) | omega | assumption | with_reducible rfl)
  all_goals (first | ((simp only [decide_eq_decide, true_eq_decide_iff, false_eq_decide_iff, Bool.not_eq_eq_eq_not, Bool.not_true, Bool.not_false]; omega); done) | (grind; done))
theorem sat_impl_Box_valid : Sat Tryz.prog rt0 84 (wkIn spVBx) := sat_in (sat_out sat_impl_Box_valid_0)
def bxHas (b : Bx) (x y : Int) : Bool := vBx b && decide (b.l ≤ x ∧ x ≤ b.r - 1) && decide (b.t ≤ y ∧ y ≤ b.b - 1)
def spBxH_A : Bx × Int × Int → List AV
  | (b, x, y) => [.agg (bxC b), I x, I y]
def spBxH_pre : Bx × Int × Int → Prop
  | (b, x, y) => (-1000000 ≤ b.r ∧ b.r ≤ 1000000) ∧ -1000000 ≤ b.b ∧ b.b ≤ 1000000
def spBxH_post : Bx × Int × Int → AV → List Box → Prop
  | (b, x, y), r, bs => r = B (bxHas b x y) ∧ bs = []
def spBxH : VE.Spec := famSpec spBxH_A d_bx_i_i spBxH_pre spBxH_post 0 true
theorem spBxH_q : spBxH.flat = true ∧ spBxH.mt = [] ∧ spBxH.shut = false ∧ spBxH.cost = 0 ∧ (∀ a i, spBxH.pre a i = (i = [] ∧ famPre d_bx_i_i spBxH_A spBxH_pre a)) ∧ ∀ a i r b, spBxH.post a i r b = (famPost d_bx_i_i spBxH_post a r b) := ⟨rfl, rfl, rfl, rfl, fun _ _ => rfl, fun _ _ _ _ => rfl⟩
def tb39 : Nat → Option VE.Spec := tabOf [(84, wkIn spVBx), (58, wkIn spIn)]
theorem tb39_84 : tb39 84 = some (wkIn spVBx) := rfl
theorem tb39_58 : tb39 58 = some (wkIn spIn) := rfl
theorem tb39_ok : TabOK Tryz.prog rt0 tb39 := (tabOf_cons (by kernel_rfl) sat_impl_Box_valid (tabOf_cons (by kernel_rfl) sat_impl_in tabOf_nil))
set_option maxHeartbeats 4000000 in
theorem sat_impl_BoxHas_0 : Sat Tryz.prog rt0 39 (wkOut spBxH) := by
  refine fn_sat hm ttok (tab := tb39) tb39_ok Tryz.func39 (c := Tryz.f39.body.getD .skip) (by kernel_rfl) (ts := [.tmp 6]) (by kernel_rfl) Tryz.ntmps39 (sq := fun _ => true) (by kernel_rfl) ?_
  intro args ins pk hpre0 hpk
  obtain ⟨rfl, hpre0⟩ := hpre0
  obtain ⟨⟨b, x, y⟩, rfl, hpre, hdec⟩ := famPre_ex hpre0
  clear hpre0 hdec
  try simp only [spBxH_pre] at hpre
  replace hpk : pk + 0 ≤ pickLimit := hpk
  refine ⟨Nat.le_of_ble_eq_true rfl, ?_⟩
  simp (config := { maxSteps := 1000000 }) only [go_sem, ↓ifP_true, ↓ifP_false, ↓ifP_not, Nat.reduceLT, Nat.reduceAdd, Nat.reduceBEq, Nat.reduceSub, Nat.reduceLeDiff, Nat.reduceEqDiff, Nat.reduceMul, Int.reduceToNat, Int.reduceEq, Int.reduceLT, Int.reduceLE, Int.reduceAdd, Int.reduceSub, Int.reduceMul, reduceCtorEq, cond_true, cond_false, forall_eq', forall_eq, forall_const, implies_true, if_true, if_false, exists_eq_left', exists_eq', exists_eq, ne_eq, Tryz.f39, tb39_84, tb39_58, spBxH_q, spBxH_A, spBxH_pre, spBxH_post, spVBx_q, spVBx_A, spVBx_pre, spVBx_post, spIn_q, spIn_A, spIn_pre, spIn_post]
  repeat' (first | apply And.intro | (intro _) | omega | assumption | with_reducible rfl)
  all_goals (first | ((simp [bxHas, *]; done); done) | (simp_all [bxHas]; done) | (grind [bxHas]; done))
theorem sat_impl_BoxHas : Sat Tryz.prog rt0 39 (wkIn spBxH) := sat_in (sat_out sat_impl_BoxHas_0)
end Go.Proofs.YtkhplopcjkkejaaGreat
end
section
set_option maxRecDepth 100000
set_option linter.unusedSimpArgs false
set_option linter.unusedVariables false
namespace Go.Proofs.YtkhplopcjkkejaaGreat
open Go Go.VE
theorem tbV_u {w h : Int} (hz : szd w h = true) (t : Int) : vBx (tbV w h t) = true := by
  have hr := szd_r hz
  have hB := tbV_bd hz t
  simp only [vBx, decide_eq_true_eq]; omega
theorem stg_end {b : Bx} {w : Int} {i : Nat} : inStg b w b.b b.l i ↔ (b.l ≤ (i : Int) % w ∧ (i : Int) % w < b.r) ∧ b.t ≤ (i : Int) / w ∧ (i : Int) / w < b.b := by
  unfold inStg; constructor <;> (intro h; omega)
theorem tile_at {f : Frm} {s : Scn} {t i : Int} {k : Colr} (hok : okDT f s t = true) (h0 : 0 ≤ i) (hk : f.px[i.toNat]? = some k) : (dtF f s t).px[i.toNat]? = some (if bxHas (tbV s.w s.h t) (i.tmod s.w) (i.tdiv s.w) = true then pixV s (i.tmod s.w) (i.tdiv s.w) else k) ∧ (1 ≤ s.w ∧ s.w ≤ 12) ∧ (dtF f s t).px.length = f.px.length ∧ vScn s = true ∧ isT s.w s.h t = true := by
  obtain ⟨h1, h2, h3, h4, h5⟩ := okDT_parts hok
  have hz := (vScn_parts h2).1
  have hr := szd_r hz
  have hB := tbV_bd hz t
  have hl := (List.getElem?_eq_some_iff.1 hk).1
  have hpl := (vFrm_parts h1).2.1
  refine ⟨?_, hr.1, by rw [dt_yes hok]; exact tileP_len _ _ _, h2, h5⟩
  rw [dt_yes hok]
  show (tileP s f.px t)[i.toNat]? = _
  rw [tileP, stg_get, hk, Option.map_some, Int.tmod_eq_emod_of_nonneg h0, Int.tdiv_eq_ediv_of_nonneg h0, Int.toNat_of_nonneg h0]
  have e : inStg (tbV s.w s.h t) s.w (tbV s.w s.h t).b (tbV s.w s.h t).l i.toNat ↔ bxHas (tbV s.w s.h t) (i % s.w) (i / s.w) = true := by
    rw [stg_end, Int.toNat_of_nonneg h0, bxHas, tbV_u hz t]
    simp only [Bool.true_and, Bool.and_eq_true, decide_eq_true_eq]; omega
  by_cases hin : bxHas (tbV s.w s.h t) (i % s.w) (i / s.w) = true
  · rw [if_pos (e.2 hin), if_pos hin]
    have hh := stg_end.1 (e.2 hin)
    rw [Int.toNat_of_nonneg h0] at hh
    rw [(pix_rng h2 (by omega) (by omega) (by omega) (by omega)).1]
  · rw [if_neg (fun h => hin (e.1 h)), if_neg hin]
end Go.Proofs.YtkhplopcjkkejaaGreat
end
