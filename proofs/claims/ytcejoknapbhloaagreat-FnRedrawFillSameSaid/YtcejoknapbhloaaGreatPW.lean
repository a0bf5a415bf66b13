/- Contracts of functions of the program vectorraster, each proved for all states that fit its description. No conditions. -/
import Derived.Test.YtcejoknapbhloaaGreatPV
import Derived.Test.YtcejoknapbhloaaGreatPU
import Derived.Test.YtcejoknapbhloaaGreatKT
set_option linter.unusedSimpArgs false
set_option linter.unusedVariables false
section
set_option maxRecDepth 100000
set_option linter.unusedSimpArgs false
set_option linter.unusedVariables false
namespace Go.Proofs.YtcejoknapbhloaaGreat
open Go Go.VE
def hitB (s : Scn) (t : Int) (i : Nat) : Bool := decide (inStg (tbV s.w s.h t) s.w (tbV s.w s.h t).b (tbV s.w s.h t).l i)
theorem tileP_get (s : Scn) (px : List Colr) (t : Int) (i : Nat) : (tileP s px t)[i]? = px[i]?.map fun c => if hitB s t i = true then pixF s.fs ((i : Int) % s.w) ((i : Int) / s.w) else c := by
  rw [tileP, stg_get]
  simp only [hitB, decide_eq_true_eq]
def tilesP (s : Scn) (px : List Colr) (ts : List Int) : List Colr := ts.foldl (tileP s) px
theorem tilesP_get (s : Scn) (i : Nat) : ∀ (ts : List Int) (px : List Colr), (tilesP s px ts)[i]? = px[i]?.map fun c => if ts.any (hitB s · i) = true then pixF s.fs ((i : Int) % s.w) ((i : Int) / s.w) else c
  | [], px => by simp [tilesP]
  | t :: r, px => by
    have ih := tilesP_get s i r (tileP s px t)
    have e : tilesP s px (t :: r) = tilesP s (tileP s px t) r := rfl
    rw [e, ih, tileP_get, Option.map_map]
    cases px[i]? with
    | none => rfl
    | some c =>
      simp only [Option.map_some, Function.comp, List.any_cons]
      by_cases h1 : hitB s t i = true <;> by_cases h2 : r.any (hitB s · i) = true <;> simp [h1, h2]
theorem tilesP_len (s : Scn) : ∀ (ts : List Int) (px : List Colr), (tilesP s px ts).length = px.length
  | [], px => rfl
  | t :: r, px => (tilesP_len s r (tileP s px t)).trans (tileP_len s px t)
theorem tilesP_snoc (s : Scn) (px : List Colr) (ts : List Int) (t : Int) : tilesP s px (ts ++ [t]) = tileP s (tilesP s px ts) t := by
  simp [tilesP, List.foldl_append]
theorem tilesP_step {s : Scn} {px : List Colr} {ts : List Int} {i t : Int} (h : ts[i.toNat]? = some t) (h0 : 0 ≤ i) : tilesP s px (ts.take (i + 1).toNat) = tileP s (tilesP s px (ts.take i.toNat)) t := by
  rw [takeN h h0, tilesP_snoc]
theorem tilesP_congr {s : Scn} {px : List Colr} {a b : List Int} (h : ∀ i, a.any (hitB s · i) = b.any (hitB s · i)) : tilesP s px a = tilesP s px b := by
  refine List.ext_getElem? fun i => ?_
  rw [tilesP_get, tilesP_get, h i]
theorem tilesP_rev (s : Scn) (px : List Colr) (a : List Int) : tilesP s px a.reverse = tilesP s px a := tilesP_congr fun i => List.any_reverse
theorem tilesP_two (s : Scn) (px : List Colr) (a : List Int) : tilesP s px (a ++ a) = tilesP s px a := tilesP_congr fun i => by rw [List.any_append, Bool.or_self]
def blankP (s : Scn) : List Colr := List.replicate (s.w * s.h).toNat ⟨0, 0, 0, 0⟩
theorem blankP_len {s : Scn} (h : vScn s = true) : ((blankP s).length : Int) = s.w * s.h := by
  have := wh_bd (vScn_parts h).1
  rw [blankP, List.length_replicate]; omega
def inTs (s : Scn) (ts : List Int) : Bool := ts.all fun t => isT s.w s.h t
def okDTs (s : Scn) (ts : List Int) : Bool := vScn s && decide (ts.length ≤ 30) && inTs s ts
def dtsF (s : Scn) (ts : List Int) : Frm := if okDTs s ts = true then ⟨s.w, s.h, tilesP s (blankP s) ts⟩ else ⟨0, 0, []⟩
theorem okDTs_parts {s : Scn} {ts : List Int} (h : okDTs s ts = true) : vScn s = true ∧ ts.length ≤ 30 ∧ inTs s ts = true := by
  simp only [okDTs, Bool.and_eq_true, decide_eq_true_eq] at h
  exact ⟨h.1.1, h.1.2, h.2⟩
theorem okDTs_of {s : Scn} {ts : List Int} (h1 : vScn s = true) (h2 : ts.length ≤ 30) (h3 : inTs s ts = true) : okDTs s ts = true := by
  rw [okDTs, h1, h3, decide_eq_true h2]; rfl
theorem dts_yes {s : Scn} {ts : List Int} (h : okDTs s ts = true) : dtsF s ts = ⟨s.w, s.h, tilesP s (blankP s) ts⟩ := if_pos h
theorem dts_no {s : Scn} {ts : List Int} (h : okDTs s ts = false) : dtsF s ts = ⟨0, 0, []⟩ := if_neg (by rw [h]; decide)
theorem dts_n1 {s : Scn} {ts : List Int} (h : vScn s = false) : okDTs s ts = false := by rw [okDTs, h]; rfl
theorem dts_n2 {s : Scn} {ts : List Int} (h : ¬ ts.length ≤ 30) : okDTs s ts = false := by rw [okDTs, decide_eq_false h, Bool.and_false]; rfl
theorem dts_n3 {s : Scn} {ts : List Int} (h : inTs s ts = false) : okDTs s ts = false := by rw [okDTs, h, Bool.and_false]
theorem inTs_bad {s : Scn} {ts : List Int} {i t : Int} (h : ts[i.toNat]? = some t) (hv : isT s.w s.h t = false) : inTs s ts = false := all_bad (p := fun t => isT s.w s.h t) h hv
theorem inTs_step {s : Scn} {ts : List Int} {i t : Int} (h : ts[i.toNat]? = some t) (h0 : 0 ≤ i) (hv : isT s.w s.h t = true) (hi : inTs s (ts.take i.toNat) = true) : inTs s (ts.take (i + 1).toNat) = true := by
  rw [takeN h h0, inTs, List.all_append]
  simp only [List.all_cons, hv, List.all_nil, Bool.and_true]
  exact hi
theorem inTs_rev {s : Scn} {ts : List Int} (h : inTs s ts = true) : inTs s ts.reverse = true := by
  rw [inTs, List.all_reverse]; exact h
theorem inTs_two {s : Scn} {ts : List Int} (h : inTs s ts = true) : inTs s (ts ++ ts) = true := by
  rw [inTs, List.all_append]; simp only [Bool.and_self]; exact h
theorem inTs_all {s : Scn} {ts : List Int} (hz : szd s.w s.h = true) : inTs s ts = (ts.all fun n => decide (0 ≤ n ∧ n ≤ acr s.w * acr s.h - 1)) := by
  unfold inTs
  congr 1
  funext t
  rw [isT, hz, Bool.true_and, decide_eq_decide]; omega
theorem dts_len (s : Scn) (ts : List Int) : (dtsF s ts).px.length ≤ 144 := by
  unfold dtsF
  split
  · rename_i h
    have hv := (okDTs_parts h).1
    have h1 := wh_bd (vScn_parts hv).1
    have h2 := blankP_len hv
    have h3 := tilesP_len s ts (blankP s)
    dsimp only; omega
  · simp
theorem hit_at {s : Scn} (hz : szd s.w s.h = true) {i : Nat} (hi : (i : Int) < s.w * s.h) : ∃ t, isT s.w s.h t = true ∧ hitB s t i = true := by
  have hr := szd_r hz
  have ha := acr_mul hz
  have hw : (0 : Int) < s.w := by omega
  have h1 := Int.emod_nonneg (i : Int) (show s.w ≠ 0 by omega)
  have h2 := Int.emod_lt_of_pos (i : Int) hw
  have h3 : 0 ≤ (i : Int) / s.w := Int.ediv_nonneg (by omega) (by omega)
  have h4 : (i : Int) / s.w < s.h := Int.ediv_lt_of_lt_mul hw (by rw [Int.mul_comm]; exact hi)
  generalize hc : (i : Int) % s.w = c at *
  generalize hq : (i : Int) / s.w = q at *
  have hc4 : c / 4 < acr s.w := by unfold acr; omega
  have hq4 : q / 4 < acr s.h := by unfold acr; omega
  have hA : (q / 4 * acr s.w + c / 4) % acr s.w = c / 4 := by
    rw [Int.add_comm, Int.add_mul_emod_self_right, Int.emod_eq_of_lt (by omega) hc4]
  have hB : (q / 4 * acr s.w + c / 4) / acr s.w = q / 4 := by
    rw [Int.add_comm, Int.add_mul_ediv_right _ _ (by omega), Int.ediv_eq_zero_of_lt (by omega) hc4, Int.zero_add]
  have hT : isT s.w s.h (q / 4 * acr s.w + c / 4) = true := by
    have h5 : 0 ≤ q / 4 * acr s.w := Int.mul_nonneg (by omega) (by omega)
    have h6 : (q / 4 + 1) * acr s.w ≤ acr s.h * acr s.w := Int.mul_le_mul_of_nonneg_right (by omega) (by omega)
    rw [Int.add_mul, Int.one_mul, Int.mul_comm (acr s.h)] at h6
    rw [isT, hz, decide_eq_true (by omega)]; rfl
  refine ⟨_, hT, ?_⟩
  rw [hitB, decide_eq_true_eq]
  have e : tbV s.w s.h (q / 4 * acr s.w + c / 4) = tbox s.w s.h (q / 4 * acr s.w + c / 4) := if_pos hT
  rw [e]
  unfold inStg
  simp only [tbox, hA, hB, hc, hq]
  omega
theorem tilesP_all {s : Scn} {ts : List Int} (hv : vScn s = true) (h : ∀ t, isT s.w s.h t = true → t ∈ ts) : tilesP s (blankP s) ts = drawV s := by
  have hz := (vScn_parts hv).1
  have hr := szd_r hz
  have hb := blankP_len hv
  rw [drawV, if_pos hv]
  refine List.ext_getElem? fun i => ?_
  rw [tilesP_get]
  by_cases hi : (i : Int) < s.w * s.h
  · obtain ⟨t, h1, h2⟩ := hit_at hz hi
    have ha : ts.any (hitB s · i) = true := List.any_eq_true.2 ⟨t, h t h1, h2⟩
    rw [List.getElem?_eq_getElem (by omega), Option.map_some, if_pos ha]
    have e : s.h.toNat * s.w.toNat = (s.w * s.h).toNat := by rw [← Int.toNat_mul (by omega) (by omega), Int.mul_comm]
    rw [pixAll_get _ _ _ _ (by omega) (by rw [e]; omega), Int.natCast_emod, Int.natCast_ediv, Int.toNat_of_nonneg (by omega)]
  · have e : s.h.toNat * s.w.toNat = (s.w * s.h).toNat := by rw [← Int.toNat_mul (by omega) (by omega), Int.mul_comm]
    rw [List.getElem?_eq_none (by omega), List.getElem?_eq_none (by rw [pixAll_len, e]; omega)]
    rfl
end Go.Proofs.YtcejoknapbhloaaGreat
end
section
set_option maxRecDepth 100000
set_option linter.unusedSimpArgs false
set_option linter.unusedVariables false
namespace Go.Proofs.YtcejoknapbhloaaGreat
open Go Go.VE
def gapN (a b : List Colr) (k : Nat) : Nat := ((List.range k).filter fun i => !decide (a[i]? = b[i]?)).length
theorem gapN_step (a b : List Colr) (k : Nat) : gapN a b (k + 1) = gapN a b k + if a[k]? = b[k]? then 0 else 1 := by
  rw [gapN, List.range_succ, List.filter_append, List.length_append]
  congr 1
  by_cases h : a[k]? = b[k]? <;> simp [h]
theorem gapN_le (a b : List Colr) : ∀ k, gapN a b k ≤ k
  | 0 => by simp [gapN]
  | k + 1 => by
    have := gapN_le a b k
    rw [gapN_step]; split <;> omega
def okGap (a b : Frm) : Bool := vFrm a && vFrm b && decide (a.w = b.w) && decide (a.h = b.h)
def gapF (a b : Frm) : Int := if okGap a b = true then (gapN a.px b.px a.px.length : Int) else -1
theorem gap_yes {a b : Frm} (h1 : vFrm a = true) (h2 : vFrm b = true) (h3 : a.w = b.w) (h4 : a.h = b.h) : gapF a b = (gapN a.px b.px a.px.length : Int) := if_pos (by rw [okGap, h1, h2, decide_eq_true h3, decide_eq_true h4]; rfl)
theorem gap_n1 {a b : Frm} (h : vFrm a = false) : gapF a b = -1 := if_neg (by rw [okGap, h]; simp)
theorem gap_n2 {a b : Frm} (h : vFrm b = false) : gapF a b = -1 := if_neg (by rw [okGap, h, Bool.and_false]; simp)
theorem gap_n3 {a b : Frm} (h : ¬ a.w = b.w) : gapF a b = -1 := if_neg (by rw [okGap, decide_eq_false h, Bool.and_false]; simp)
theorem gap_n4 {a b : Frm} (h : ¬ a.h = b.h) : gapF a b = -1 := if_neg (by rw [okGap, decide_eq_false h, Bool.and_false]; simp)
theorem len_sub : ∀ {l L : List Nat}, l.Nodup → (∀ x ∈ l, x ∈ L) → l.length ≤ L.length
  | [], _, _, _ => Nat.zero_le _
  | a :: l, L, hn, h => by
    rw [List.nodup_cons] at hn
    have ha : a ∈ L := h a (by simp)
    have h1 := len_sub (L := L.erase a) hn.2 fun x hx => by
      have hne : x ≠ a := fun e => hn.1 (e ▸ hx)
      exact (List.mem_erase_of_ne hne).2 (h x (by simp [hx]))
    have h2 := List.length_erase_of_mem ha
    have h3 : 0 < L.length := List.length_pos_of_mem ha
    rw [List.length_cons]; omega
def places (b : Bx) (w : Int) : List Nat := (List.range 4).flatMap fun r : Nat => (List.range 4).map fun c : Nat => ((b.t + (r : Int)) * w + b.l + (c : Int)).toNat
theorem places_len (b : Bx) (w : Int) : (places b w).length = 16 := rfl
theorem hit_place {s : Scn} {t : Int} {i : Nat} (hz : szd s.w s.h = true) (h : hitB s t i = true) : i ∈ places (tbV s.w s.h t) s.w := by
  have hr := szd_r hz
  rw [hitB, decide_eq_true_eq] at h
  have h4 : (tbV s.w s.h t).r ≤ (tbV s.w s.h t).l + 4 ∧ (tbV s.w s.h t).b ≤ (tbV s.w s.h t).t + 4 := by
    unfold tbV; split
    · simp only [tbox]; omega
    · dsimp only; omega
  have h5 := tbV_bd hz t
  generalize tbV s.w s.h t = b at *
  unfold inStg at h
  have hd := Int.mul_ediv_add_emod (i : Int) s.w
  rw [Int.mul_comm] at hd
  simp only [places, List.mem_flatMap, List.mem_map, List.mem_range]
  refine ⟨((i : Int) / s.w - b.t).toNat, by omega, ((i : Int) % s.w - b.l).toNat, by omega, ?_⟩
  rw [Int.toNat_of_nonneg (by omega), Int.toNat_of_nonneg (by omega)]
  rw [show b.t + ((i : Int) / s.w - b.t) = (i : Int) / s.w by omega]
  omega
theorem gap_tile {s : Scn} {px : List Colr} {t : Int} (hz : szd s.w s.h = true) (k : Nat) : gapN px (tileP s px t) k ≤ 16 := by
  rw [← places_len (tbV s.w s.h t) s.w]
  refine len_sub (List.Pairwise.filter _ List.nodup_range) fun i hi => ?_
  obtain ⟨_, hi⟩ := List.mem_filter.1 hi
  by_cases hh : hitB s t i = true
  · exact hit_place hz hh
  · rw [tileP_get] at hi
    simp only [if_neg hh, Option.map_id', decide_true, Bool.not_true, Bool.false_eq_true] at hi
theorem tileP_ok {s : Scn} {px : List Colr} {t : Int} (hv : vScn s = true) (h : px.all vCol = true) : (tileP s px t).all vCol = true := by
  rw [List.all_eq_true] at *
  intro c hc
  obtain ⟨i, hi⟩ := List.getElem?_of_mem hc
  rw [tileP_get] at hi
  obtain ⟨d, hd, rfl⟩ := Option.map_eq_some_iff.1 hi
  split
  · exact pixF_ok (vScn_parts hv).2.2
  · exact h d (List.mem_of_getElem? hd)
theorem tileP_two (s : Scn) (px : List Colr) (t : Int) : tileP s (tileP s px t) t = tileP s px t := by
  refine List.ext_getElem? fun i => ?_
  rw [tileP_get, tileP_get]
  cases px[i]? with
  | none => rfl
  | some c => simp only [Option.map_some]; by_cases h1 : hitB s t i = true <;> simp [h1]
theorem dt_frm {f : Frm} {s : Scn} {t : Int} (h : okDT f s t = true) : vFrm (dtF f s t) = true := by
  obtain ⟨h1, h2, h3, h4, h5⟩ := okDT_parts h
  obtain ⟨g1, g2, g3⟩ := vFrm_parts h1
  rw [dt_yes h, vFrm, g1, tileP_ok h2 g3, decide_eq_true (by dsimp only; rw [tileP_len]; exact g2)]; rfl
theorem dt_again {f : Frm} {s : Scn} {t : Int} (h : okDT f s t = true) : okDT (dtF f s t) s t = true := by
  have h0 := dt_frm h
  obtain ⟨h1, h2, h3, h4, h5⟩ := okDT_parts h
  refine okDT_of h0 h2 ?_ ?_ h5
  · rw [dt_yes h]; exact h3
  · rw [dt_yes h]; exact h4
theorem dt_two {f : Frm} {s : Scn} {t : Int} (h : okDT f s t = true) : dtF (dtF f s t) s t = dtF f s t := by
  rw [dt_yes (dt_again h)]
  rw [dt_yes h, tileP_two]
theorem dt_gap {f : Frm} {s : Scn} {t : Int} (h : okDT f s t = true) : gapF f (dtF f s t) ≤ 16 := by
  obtain ⟨h1, h2, h3, h4, h5⟩ := okDT_parts h
  have hz := (vScn_parts h2).1
  rw [gap_yes h1 (dt_frm h) (by rw [dt_yes h]) (by rw [dt_yes h]), dt_yes h]
  have := gap_tile (px := f.px) (t := t) hz f.px.length
  dsimp only; omega
theorem dt_plen (f : Frm) (s : Scn) (t : Int) : (dtF f s t).px.length ≤ f.px.length := by
  unfold dtF; split
  · dsimp only; rw [tileP_len]; exact Nat.le_refl _
  · simp
def spGap_A : Frm × Frm → List AV
  | (a, b) => [.agg (frC a), .agg (frC b)]
def spGap_pre : Frm × Frm → Prop
  | (a, b) => a.px.length ≤ 1000000000 ∧ b.px.length ≤ 1000000000
def spGap_post : Frm × Frm → AV → List Box → Prop
  | (a, b), r, bs => r = I (gapF a b) ∧ bs = []
def spGap : VE.Spec := famSpec spGap_A d_fr_fr spGap_pre spGap_post 0 true
theorem spGap_q : spGap.flat = true ∧ spGap.mt = [] ∧ spGap.shut = false ∧ spGap.cost = 0 ∧ (∀ a i, spGap.pre a i = (i = [] ∧ famPre d_fr_fr spGap_A spGap_pre a)) ∧ ∀ a i r b, spGap.post a i r b = (famPost d_fr_fr spGap_post a r b) := ⟨rfl, rfl, rfl, rfl, fun _ _ => rfl, fun _ _ _ _ => rfl⟩
end Go.Proofs.YtcejoknapbhloaaGreat
end
section
set_option maxRecDepth 100000
set_option linter.unusedSimpArgs false
set_option linter.unusedVariables false
namespace Go.Proofs.YtcejoknapbhloaaGreat
open Go Go.VE
theorem rep_co' (n : Nat) : List.replicate n [C.v (.int .i64 0), C.v (.int .i64 0), C.v (.int .i64 0), C.v (.int .i64 0)] = List.map coC (List.replicate n ⟨0, 0, 0, 0⟩) := by
  rw [List.map_replicate]; rfl
def spBlF_A : Int × Int → List AV
  | (w, h) => [I w, I h]
def spBlF_pre : Int × Int → Prop
  | (w, h) => szd w h = true
def spBlF_post : Int × Int → AV → List Box → Prop
  | (w, h), r, bs => r = .agg [C.v (.int .i64 w), C.v (.int .i64 h), C.own 0 (w * h).toNat false] ∧ bs = [⟨(List.replicate (w * h).toNat (⟨0, 0, 0, 0⟩ : Colr)).map coC, 4, 66, true, false⟩]
def spBlF : VE.Spec := famSpec spBlF_A d_i_i spBlF_pre spBlF_post 0 true
theorem spBlF_q : spBlF.flat = true ∧ spBlF.mt = [] ∧ spBlF.shut = false ∧ spBlF.cost = 0 ∧ (∀ a i, spBlF.pre a i = (i = [] ∧ famPre d_i_i spBlF_A spBlF_pre a)) ∧ ∀ a i r b, spBlF.post a i r b = (famPost d_i_i spBlF_post a r b) := ⟨rfl, rfl, rfl, rfl, fun _ _ => rfl, fun _ _ _ _ => rfl⟩
def spBlR_A : Int × Int → List AV
  | (w, h) => [I w, I h]
def spBlR_pre : Int × Int → Prop
  | (w, h) => szd w h = true
def spBlR_post : Int × Int → AV → List Box → Prop
  | (w, h), r, bs => r = .agg (frC (⟨w, h, List.replicate (w * h).toNat ⟨0, 0, 0, 0⟩⟩)) ∧ bs = []
def spBlR : VE.Spec := famSpecS spBlR_A d_i_i spBlR_pre spBlR_post 0 false
theorem spBlR_q : spBlR.flat = false ∧ spBlR.mt = [] ∧ spBlR.shut = true ∧ spBlR.cost = 0 ∧ (∀ a i, spBlR.pre a i = (i = [] ∧ famPre d_i_i spBlR_A spBlR_pre a)) ∧ ∀ a i r b, spBlR.post a i r b = (famPost d_i_i spBlR_post a r b) := ⟨rfl, rfl, rfl, rfl, fun _ _ => rfl, fun _ _ _ _ => rfl⟩
def tb26 : Nat → Option VE.Spec := tabOf []
theorem tb26_ok : TabOK Tryz.prog rt0 tb26 := tabOf_nil
set_option maxHeartbeats 4000000 in
theorem sat_spec_blank_0 : Sat Tryz.prog rt0 26 (wkOut spBlR) := by
  refine fn_sat hm ttok (tab := tb26) tb26_ok Tryz.func26 (c := Tryz.f26.body.getD .skip) (by kernel_rfl) (ts := [.cell 4 31]) (by kernel_rfl) Tryz.ntmps26 (sq := fun _ => true) (by kernel_rfl) ?_
  intro args ins pk hpre0 hpk
  obtain ⟨rfl, hpre0⟩ := hpre0
  obtain ⟨⟨w, h⟩, rfl, hpre, hdec⟩ := famPre_ex hpre0
  clear hpre0 hdec
  try simp only [spBlR_pre] at hpre
  replace hpk : pk + 0 ≤ pickLimit := hpk
  refine ⟨Nat.le_of_ble_eq_true rfl, ?_⟩
  have hwh := wh_bd hpre
  have hr := szd_r hpre
  simp (config := { maxSteps := 1000000 }) only [go_sem, ↓ifP_true, ↓ifP_false, ↓ifP_not, Nat.reduceLT, Nat.reduceAdd, Nat.reduceBEq, Nat.reduceSub, Nat.reduceLeDiff, Nat.reduceEqDiff, Nat.reduceMul, Int.reduceToNat, Int.reduceEq, Int.reduceLT, Int.reduceLE, Int.reduceAdd, Int.reduceSub, Int.reduceMul, reduceCtorEq, cond_true, cond_false, forall_eq', forall_eq, forall_const, implies_true, if_true, if_false, exists_eq_left', exists_eq', exists_eq, ne_eq, Tryz.f26, spBlR_q, spBlR_A, spBlR_pre, spBlR_post, rep_co']
  repeat' (first | apply And.intro | (intro _) | omega | assumption | with_reducible rfl)
  all_goals (first | (omega; done) | (rfl; done))
theorem sat_spec_blank : Sat Tryz.prog rt0 26 (wkIn spBlR) := sat_in (sat_out sat_spec_blank_0)
def tb21 : Nat → Option VE.Spec := tabOf [(44, wkIn spSzd)]
theorem tb21_44 : tb21 44 = some (wkIn spSzd) := rfl
theorem tb21_ok : TabOK Tryz.prog rt0 tb21 := (tabOf_cons (by kernel_rfl) sat_impl_sized tabOf_nil)
set_option maxHeartbeats 4000000 in
theorem sat_impl_BlankFrame_0 : Sat Tryz.prog rt0 21 (wkOut spBlF) := by
  refine fn_sat hm ttok (tab := tb21) tb21_ok Tryz.func21 (c := Tryz.f21.body.getD .skip) (by kernel_rfl) (ts := [.cell 4 31]) (by kernel_rfl) Tryz.ntmps21 (sq := fun _ => true) (by kernel_rfl) ?_
  intro args ins pk hpre0 hpk
  obtain ⟨rfl, hpre0⟩ := hpre0
  obtain ⟨⟨w, h⟩, rfl, hpre, hdec⟩ := famPre_ex hpre0
  clear hpre0 hdec
  try simp only [spBlF_pre] at hpre
  replace hpk : pk + 0 ≤ pickLimit := hpk
  refine ⟨Nat.le_of_ble_eq_true rfl, ?_⟩
  have hwh := wh_bd hpre
  have hr := szd_r hpre
  simp (config := { maxSteps := 1000000 }) only [go_sem, ↓ifP_true, ↓ifP_false, ↓ifP_not, Nat.reduceLT, Nat.reduceAdd, Nat.reduceBEq, Nat.reduceSub, Nat.reduceLeDiff, Nat.reduceEqDiff, Nat.reduceMul, Int.reduceToNat, Int.reduceEq, Int.reduceLT, Int.reduceLE, Int.reduceAdd, Int.reduceSub, Int.reduceMul, reduceCtorEq, cond_true, cond_false, forall_eq', forall_eq, forall_const, implies_true, if_true, if_false, exists_eq_left', exists_eq', exists_eq, ne_eq, Tryz.f21, tb21_44, spBlF_q, spBlF_A, spBlF_pre, spBlF_post, spSzd_q, spSzd_A, spSzd_pre, spSzd_post, rep_co']
  repeat' (first | apply And.intro | (intro _) | omega | assumption | with_reducible rfl)
  all_goals (first | (omega; done) | (rfl; done) | (simp_all; done))
theorem sat_impl_BlankFrame : Sat Tryz.prog rt0 21 (wkIn spBlF) := sat_in (sat_out sat_impl_BlankFrame_0)
theorem inTs_it {s : Scn} {ts : List Int} {i t : Int} (hv : vScn s = true) (ha : (ts.all fun n => decide (0 ≤ n ∧ n ≤ acr s.w * acr s.h - 1)) = true) (hk : ts[i.toNat]? = some t) : isT s.w s.h t = true := by
  rw [← inTs_all (vScn_parts hv).1] at ha
  exact List.all_eq_true.1 ha t (List.mem_of_getElem? hk)
theorem dts_px {s : Scn} {f : Frm} {ts : List Int} (hv : vScn s = true) (hf : f = ⟨s.w, s.h, tilesP s (blankP s) ts⟩) : (f.px.length : Int) = s.w * s.h := by
  rw [hf]; dsimp only; rw [tilesP_len]; exact blankP_len hv
theorem dts_fin {s : Scn} {ts : List Int} {i : Int} (hv : vScn s = true) (hl : ¬ 30 < (ts.length : Int)) (ha : (ts.all fun n => decide (0 ≤ n ∧ n ≤ acr s.w * acr s.h - 1)) = true) (hi : (ts.length : Int) ≤ i) : (⟨s.w, s.h, tilesP s (blankP s) (ts.take i.toNat)⟩ : Frm) = dtsF s ts := by
  rw [← inTs_all (vScn_parts hv).1] at ha
  rw [dts_yes (okDTs_of hv (by omega) ha), takeA (by omega)]
theorem dts_fin4 {s : Scn} {ts : List Int} {i : Int} (hv : vScn s = true) (hl : ¬ 30 < (ts.length : Int)) (h : inTs s (ts.take i.toNat) = true) (hi : (ts.length : Int) ≤ i) : true = okDTs s ts := by
  rw [takeA (by omega)] at h
  exact (okDTs_of hv (by omega) h).symm
theorem dts_fin3 {s : Scn} {ts : List Int} {o : List Colr} {i : Int} (hv : vScn s = true) (hl : ¬ 30 < (ts.length : Int)) (h : o = tilesP s (blankP s) (ts.take i.toNat) ∧ inTs s (ts.take i.toNat) = true) (hi : (ts.length : Int) ≤ i) : [C.v (.int .i64 s.w), C.v (.int .i64 s.h), C.sl false (List.map coC o)] = frC (dtsF s ts) := by
  rw [takeA (by omega)] at h
  rw [dts_yes (okDTs_of hv (by omega) h.2), h.1]; rfl
theorem dts_fin2 {s : Scn} {ts : List Int} (hv : vScn s = true) (hl : ¬ 30 < (ts.length : Int)) (ha : (ts.all fun n => decide (0 ≤ n ∧ n ≤ acr s.w * acr s.h - 1)) = true) : true = okDTs s ts := by
  rw [← inTs_all (vScn_parts hv).1] at ha
  exact (okDTs_of hv (by omega) ha).symm
end Go.Proofs.YtcejoknapbhloaaGreat
end
