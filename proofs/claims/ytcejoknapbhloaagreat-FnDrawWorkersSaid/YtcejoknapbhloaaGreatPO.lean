/- Contracts of functions of the program vectorraster, each proved for all states that fit its description. No conditions. -/
import Derived.Test.YtcejoknapbhloaaGreatPI
import Derived.Test.YtcejoknapbhloaaGreatPB
import Derived.Test.YtcejoknapbhloaaGreatKK
import Derived.Test.YtcejoknapbhloaaGreatPC
import Derived.Test.YtcejoknapbhloaaGreatPE
import Derived.Test.YtcejoknapbhloaaGreatPF
set_option linter.unusedSimpArgs false
set_option linter.unusedVariables false
set_option maxRecDepth 100000
namespace Go.Proofs.YtcejoknapbhloaaGreat
open Go Go.VE
section
def spRevM_A : List Pt → List AV := fun l => [.c (.own 0 l.length false)]
def spRevM_B : List Pt → List Box := fun l => [⟨l.map ptC, 2, 40, true, false⟩]
def spRevM_d : List AV → List Box → Option (List Pt)
  | [.c (.own 0 _ false)], [⟨es, _, _, _, _⟩] => decAll ptCd es
  | _, _ => none
def spRevM_pre : List Pt → Prop := fun l => l.length ≤ 1000000000
def spRevM_post : List Pt → AV → List Box → Prop := fun l r bs => r = .tup [] ∧ bs = [⟨(l.reverse).map ptC, 2, 40, true, false⟩]
def spRevM : VE.Spec := famSpecM spRevM_A spRevM_B spRevM_d spRevM_pre spRevM_post 0 false [true] false
theorem spRevM_q : SpQ spRevM false [true] false 0 (fun a i => famPreM spRevM_d spRevM_A spRevM_B spRevM_pre a i) (fun a i r b => famPostM spRevM_d spRevM_post a i r b) := ⟨rfl, rfl, rfl, rfl, fun _ _ => rfl, fun _ _ _ _ => rfl⟩
theorem set2_get {l : List Pt} {i j k : Nat} {x y : Pt} (hi : i < l.length) (hj : j < l.length) : ((l.set i y).set j x)[k]? = if k = j then some x else if k = i then some y else l[k]? := by
  rw [List.getElem?_set, List.getElem?_set]
  by_cases h1 : k = j
  · subst h1; simp [hj]
  · rw [if_neg (fun h => h1 h.symm), if_neg h1]
    by_cases h2 : k = i
    · subst h2; simp [hi]
    · rw [if_neg (fun h => h2 h.symm), if_neg h2]
structure RevI (l o : List Pt) (i : Int) : Prop where
  len : o.length = l.length
  get : ∀ k : Nat, k < l.length → o[k]? = if (k : Int) < i ∨ (l.length : Int) - i ≤ k then l[l.length - 1 - k]? else l[k]?
theorem RevI.start (l : List Pt) : RevI l l 0 := ⟨rfl, fun k hk => by rw [if_neg (by omega)]⟩
theorem RevI.step {l o : List Pt} {i : Int} {x y : Pt} (h : RevI l o i) (h0 : 0 ≤ i) (hij : i < (l.length : Int) - 1 - i) (hx : o[i.toNat]? = some x) (hy : o[((l.length : Int) - 1 - i).toNat]? = some y) : RevI l ((o.set i.toNat y).set ((l.length : Int) - 1 - i).toNat x) (i + 1) := by
  obtain ⟨hl, hg⟩ := h
  refine ⟨by simp [hl], fun k hk => ?_⟩
  rw [set2_get (by omega) (by omega)]
  have gx := hg i.toNat (by omega)
  have gy := hg ((l.length : Int) - 1 - i).toNat (by omega)
  rw [if_neg (by omega), hx] at gx
  rw [if_neg (by omega), hy] at gy
  by_cases h1 : k = ((l.length : Int) - 1 - i).toNat
  · rw [if_pos h1, if_pos (by omega), gx]; congr 1; omega
  · rw [if_neg h1]
    by_cases h2 : k = i.toNat
    · rw [if_pos h2, if_pos (by omega), gy]; congr 1; omega
    · rw [if_neg h2, hg k hk]
      by_cases h3 : (k : Int) < i ∨ (l.length : Int) - i ≤ k
      · rw [if_pos h3, if_pos (by omega)]
      · rw [if_neg h3, if_neg (by omega)]
theorem RevI.end {l o : List Pt} {i : Int} (h : RevI l o i) (hij : ¬ i < (l.length : Int) - 1 - i) (hi : i ≤ l.length) : o = l.reverse := by
  refine List.ext_getElem? fun k => ?_
  by_cases hk : k < l.length
  · rw [h.get k hk, List.getElem?_reverse hk]
    split
    · rfl
    · congr 1; omega
  · rw [List.getElem?_eq_none (by have := h.len; omega), List.getElem?_eq_none (by simp; omega)]
theorem rev_all {l o : List Pt} {i j : Int} (h : RevI l o i) (h0 : 0 ≤ i) (hj : j = (l.length : Int) - 1 - i) : (i < j ∧ ∃ y, o[j.toNat]? = some y ∧ ∀ q, (o.set i.toNat q)[j.toNat]? = some y) ∨ ¬ i < j := by
  rcases Int.lt_or_le i j with h1 | h1
  · have hl := h.len
    refine .inl ⟨h1, o[j.toNat], List.getElem?_eq_getElem (by omega), fun q => ?_⟩
    rw [List.getElem?_set_ne (by omega)]
    exact List.getElem?_eq_getElem (by omega)
  · exact .inr (by omega)
theorem pt_set2 (o : List Pt) (n : Nat) (x : Pt) : (List.map ptC o).set n (ptC x) = List.map ptC (o.set n x) := by rw [List.map_set]
def tb169 : Nat → Option VE.Spec := tabOf []
theorem tb169_ok : TabOK Tryz.prog rt0 tb169 := tabOf_nil
section
attribute [local go_sem] Tryz.f169 spRevM_q spRevM_A spRevM_B spRevM_d spRevM_pre spRevM_post
set_option maxHeartbeats 4000000 in
theorem sat_slices_Reverse_impl_Point_impl_Point_0 : Sat Tryz.prog rt0 169 (wkOut spRevM) := by
  refine fn_sat hm ttok (tab := tb169) tb169_ok Tryz.func169 (c := Tryz.f169.body.getD .skip) (by kernel_rfl) (ts := []) (by kernel_rfl) Tryz.ntmps169 (sq := fun _ => true) (by kernel_rfl) ?_
  intro args ins pk hpre0 hpk
  obtain ⟨l, rfl, rfl, hpre, hdec⟩ := famPreM_ex hpre0
  clear hpre0 hdec
  try simp only [spRevM_pre] at hpre
  replace hpk : pk + 0 ≤ pickLimit := hpk
  refine ⟨nle rfl, ?_⟩
  simp (maxSteps := 1000000) only [go_sem]
  repeat' first | apply And.intro | intro _ | omega | assumption | with_reducible rfl
  any_goals
    refine loopS (α := (List Pt) × Int × Int) false [1, 2, 3, 4, 5, 6, 7, 8, 9, 10, 11, 12, 13, 14, 15, 16, 17, 18, 19, 20, 21, 22, 23, 24, 25, 26, 27] (fun σ => [gId (σ.get 0)]) (fun σ x => [(0, .c (.own (gId (σ.get 0)) (x.1).length false)), (2, I x.2.1), (3, I x.2.2)]) (fun σ x => [(gId (σ.get 0), some ⟨(x.1).map ptC, 2, 40, true, false⟩)]) (fun (o, i, j) => 0) (fun σ => (gL ptCd σ (σ.get 0), gI (σ.get 2), gI (σ.get 3))) (fun σ τ => [(gId (σ.get 0), gId (τ.get 0))]) (fun (o, i, j) => (0 ≤ i ∧ i ≤ l.length) ∧ j = (l.length : Int) - 1 - i ∧ RevI l o i) (fun (o, i, j) => (l.length - i).toNat) ⟨by (simp (maxSteps := 1000000) only [go_sem, pt_set2, List.length_set]; (repeat' first | apply And.intro | intro _ | omega | assumption | with_reducible rfl); all_goals (first | exact RevI.start l)), ?_⟩
    rintro ⟨o, i, j⟩ hinv
    try dsimp only at hinv
    rcases elemAt o i (by omega) with ⟨hlt, x, hk⟩ | hlt
    all_goals (first | ((have hlt2 := of_eq_true hlt); (have hset := set_same hk); (have hl := hinv.2.2.len); (rcases rev_all hinv.2.2 hinv.1.1 hinv.2.1 with ⟨hlj, y, hy, hoth⟩ | hnj); all_goals (first | simp (maxSteps := 1000000) only [go_sem, pt_set2, List.length_set, hlt, hk, hset, hy, hoth] | simp (maxSteps := 1000000) only [go_sem, pt_set2, List.length_set, hlt, hk])) | (have hlt2 := of_eq_false hlt; (first | simp (maxSteps := 1000000) only [go_sem, pt_set2, List.length_set, hlt, hset, hy, hoth] | simp (maxSteps := 1000000) only [go_sem, pt_set2, List.length_set, hlt])))
    all_goals
      repeat' first | apply And.intro | intro _ | omega | assumption | with_reducible rfl
  
  all_goals (first | ((have hl := hinv.2.2.len; omega); done) | ((obtain ⟨⟨h1, h2⟩, rfl, h3⟩ := hinv; exact h3.step h1 (by omega) hk hy); done) | ((rw [hinv.2.2.end (by omega) hinv.1.2]); done) | (exact hinv.2.2.end (by omega) hinv.1.2) | ((have h9 := hinv.2.2.end (by omega) hinv.1.2; simp [h9]); done))
end
theorem sat_slices_Reverse_impl_Point_impl_Point : Sat Tryz.prog rt0 169 (wkIn spRevM) := sat_in (sat_out sat_slices_Reverse_impl_Point_impl_Point_0)
end
section
theorem bend_eq2 {c : List Pt} {i n : Int} {a b d a' b' d' : Pt} (e1 : c[(i - 1).toNat]? = some a) (e2 : c[i.toNat]? = some b) (e3 : c[(i + 1).toNat]? = some d) (e4 : c[(i - 1).toNat]? = some a') (e5 : c[i.toNat]? = some b') (e6 : c[(i + 1).toNat]? = some d') (h0 : 1 ≤ i) :
    max (max (max n (if a.x + d.x - 2 * b.x < 0 then -(a.x + d.x - 2 * b.x) else a.x + d.x - 2 * b.x)) (if a'.y + d'.y - 2 * b'.y < 0 then -(a'.y + d'.y - 2 * b'.y) else a'.y + d'.y - 2 * b'.y)) (bendP (c.drop (i + 1 - 1).toNat)) = max n (bendP (c.drop (i - 1).toNat)) := by
  rw [show a.x + d.x - 2 * b.x = a.x - 2 * b.x + d.x by omega, show a'.y + d'.y - 2 * b'.y = a'.y - 2 * b'.y + d'.y by omega]
  exact bend_eq e1 e2 e3 e4 e5 e6 h0
def tb153 : Nat → Option VE.Spec := tabOf [(168, wkIn spDist)]
theorem tb153_168 : tb153 168 = some (wkIn spDist) := rfl
theorem tb153_ok : TabOK Tryz.prog rt0 tb153 := (tabOf_cons (by kernel_rfl) sat_impl_size tabOf_nil)
@[go_sem] def sat_impl_bend_p1 : VE.Plan := pF 0 (pF 1 (pF 2 (pF 3 (pF 4 (pF 5 (pF 6 (pF 7 (pF 8 (pF 9 (pF 10 (pF 11 (pF 12 (pF 13 (pF 14 (pF 15 (pF 16 (pF 17 (pF 18 (pF 19 (pF 20 (pF 22 (pF 23 (pF 24 (pF 25 (pF 26 (pF 27 (pF 28 (pF 29 (pF 30 (pF 31 (pF 32 (pF 33 (pF 34 (pF 35 (pF 36 (pF 37 (pF 38 (pF 39 (pF 40 (pF 41 (pA 21 (pA 42 (pF 43 (pA 44 pN pN)) pN) pN)))))))))))))))))))))))))))))))))))))))))
section
attribute [local go_sem] Tryz.f153 tb153_168 spBend_q spBend_A spBend_pre spBend_post spDist_q spDist_A spDist_pre spDist_post
set_option maxHeartbeats 4000000 in
theorem sat_impl_bend_0 : Sat Tryz.prog rt0 153 (wkOut spBend) := by
  refine fn_sat hm ttok (tab := tb153) tb153_ok Tryz.func153 (c := Tryz.f153.body.getD .skip) (by kernel_rfl) (ts := [.tmp 2]) (by kernel_rfl) Tryz.ntmps153 (sq := fun id => !(id == 5)) (by kernel_rfl) ?_
  intro args ins pk hpre0 hpk
  obtain ⟨rfl, hpre0⟩ := hpre0
  obtain ⟨c, rfl, hpre, hdec⟩ := famPre_ex hpre0
  clear hpre0 hdec
  try simp only [spBend_pre] at hpre
  replace hpk : pk + 0 ≤ pickLimit := hpk
  refine ⟨nle rfl, ?_⟩
  simp (maxSteps := 1000000) only [go_sem]
  repeat' first | apply And.intro | intro _ | omega | assumption | with_reducible rfl
  all_goals try (refine drawI sat_impl_bend_p1 (by decide +kernel) ?_; simp (maxSteps := 1000000) only [go_sem, planW, stepW, Go.VE.stepT, Go.VE.clearO]; repeat' first | apply And.intro | intro _ | omega | assumption | with_reducible rfl)
  any_goals
    refine loopS (α := Int × Int) false [1, 3, 4, 5, 6, 7, 8, 9, 10, 11, 12, 13, 14, 15, 16, 17, 18, 19, 20, 21, 22, 23, 24, 25, 26, 27, 28, 29, 30, 31, 32, 33, 34, 35, 36, 37, 38, 39, 40, 41, 42, 43, 44, 45, 46, 47, 48, 49, 50, 51, 52, 53, 54, 55] (fun σ => []) (fun σ x => [(3, I x.1), (4, I x.2)]) (fun σ x => []) (fun (n, i) => 0) (fun σ => (gI (σ.get 3), gI (σ.get 4))) (fun σ τ => []) (fun (n, i) => (1 ≤ i ∧ i ≤ c.length + 1) ∧ max n (bendP (c.drop (i - 1).toNat)) = bendP c ∧ 0 ≤ n ∧ n ≤ 12000) (fun (n, i) => (c.length + 1 - i).toNat) ⟨by (simp (maxSteps := 1000000) only [go_sem]; (repeat' (first | apply And.intro | (intro hh; first | (have h9 := okL_get hpre.2 hh; cases h9) | skip) | omega | assumption | with_reducible rfl)); all_goals (first | exact bend_0 c)), ?_⟩
    rintro ⟨n, i⟩ hinv
    try dsimp only at hinv
    simp (maxSteps := 1000000) only [go_sem]
    repeat' (first | apply And.intro | (intro hh; first | (have h9 := okL_get hpre.2 hh; cases h9) | skip) | omega | assumption | with_reducible rfl)
    all_goals try (refine drawI sat_impl_bend_p1 (by decide +kernel) ?_; simp (maxSteps := 1000000) only [go_sem, planW, stepW, Go.VE.stepT, Go.VE.clearO]; repeat' (first | apply And.intro | (intro hh; first | (have h9 := okL_get hpre.2 hh; cases h9) | skip) | omega | assumption | with_reducible rfl))
  
  all_goals (first | ((rw [← hinv.2.1]; refine bend_eq2 (c := c) (i := i) ?_ ?_ ?_ ?_ ?_ ?_ hinv.1.1 <;> assumption); done) | ((rw [← hinv.2.1, bend_end (by omega) hinv.1.1]; omega); done))
end
theorem sat_impl_bend : Sat Tryz.prog rt0 153 (wkIn spBend) := sat_in (sat_out sat_impl_bend_0)
end
section
theorem lefts_nil : lefts [] = [] := rfl
theorem rights_nil : rights [] = [] := rfl
structure SpI (c L R m : List Pt) : Prop where
  len : m.length ≤ 1000
  ok : okL m
  l1 : L.length + m.length = c.length
  r1 : R.length + m.length = c.length
  l : L ++ lefts m = lefts c
  r : rights m ++ R.reverse = rights c
theorem SpI.start {c : List Pt} (h : c.length ≤ 1000) (ho : okL c) : SpI c [] [] c := ⟨h, ho, by simp, by simp, rfl, by simp⟩
theorem SpI.step {c L R m : List Pt} {a b : Pt} (h : SpI c L R m) (ha : m[0]? = some a) (hb : m[((m.length : Int) - 1).toNat]? = some b) : SpI c (L ++ [a]) (R ++ [b]) (mids m) := by
  have hl := (List.getElem?_eq_some_iff.1 ha).1
  obtain ⟨h1, h2, h3, h4, h5, h6⟩ := h
  refine ⟨by rw [mids_len]; omega, mids_ok _ h2, ?_, ?_, ?_, ?_⟩
  · rw [mids_len, List.length_append, List.length_singleton]; omega
  · rw [mids_len, List.length_append, List.length_singleton]; omega
  · rw [← h5, ← lefts_head ha, List.append_assoc]; rfl
  · rw [← h6, ← rights_last hb, List.reverse_append, List.append_assoc]; rfl
theorem SpI.end {c L R m : List Pt} (h : SpI c L R m) (hm : ¬ 0 < (m.length : Int)) : L = lefts c ∧ R.reverse = rights c := by
  have e : m = [] := List.eq_nil_of_length_eq_zero (by omega)
  subst e
  exact ⟨by simpa [lefts_nil] using h.l, by simpa [rights_nil] using h.r⟩
theorem mids_step2 {l nx : List Pt} {i : Int} {a b a' b' : Pt} (hn : nx = (mids l).take (i - 1).toNat) (h0 : 1 ≤ i) (h1 : l[(i - 1).toNat]? = some a) (h2 : l[i.toNat]? = some b) (h3 : l[(i - 1).toNat]? = some a') (h4 : l[i.toNat]? = some b') : nx ++ [⟨(a.x + b.x) / 2, (a'.y + b'.y) / 2⟩] = (mids l).take (i + 1 - 1).toNat := by
  cases h1.symm.trans h3
  cases h2.symm.trans h4
  rw [show (i + 1 - 1).toNat = i.toNat by omega, mids_step h1 h2 h0, hn]; rfl
def tb154 : Nat → Option VE.Spec := tabOf [(141, wkIn spFloor), (169, wkIn spRevM), (115, wkIn spClone)]
theorem tb154_141 : tb154 141 = some (wkIn spFloor) := rfl
theorem tb154_169 : tb154 169 = some (wkIn spRevM) := rfl
theorem tb154_115 : tb154 115 = some (wkIn spClone) := rfl
theorem tb154_ok : TabOK Tryz.prog rt0 tb154 := (tabOf_cons (by kernel_rfl) sat_impl_floor (tabOf_cons (by kernel_rfl) sat_slices_Reverse_impl_Point_impl_Point (tabOf_cons (by kernel_rfl) sat_impl_clone_impl_Point tabOf_nil)))
@[go_sem] def sat_impl_splitp1 : VE.Plan := pF 0 (pF 1 (pF 2 (pF 3 (pF 4 (pF 5 (pF 6 (pF 7 (pF 8 (pF 9 (pF 10 (pF 11 (pF 12 (pF 14 (pF 15 (pF 16 (pF 17 (pF 18 (pF 19 (pF 20 (pF 21 (pF 22 (pF 23 (pF 24 (pF 25 (pA 13 (pA 26 (pF 27 (pA 28 (pA 29 (pA 30 pN pN) pN) pN)) pN) pN)))))))))))))))))))))))))
section
attribute [local go_sem] Tryz.f154 tb154_141 tb154_169 tb154_115 spSplit_q spSplit_A spSplit_pre spSplit_post spFloor_q spFloor_A spFloor_pre spFloor_post spRevM_q spRevM_A spRevM_B spRevM_d spRevM_pre spRevM_post spClone_q spClone_A spClone_pre spClone_post
set_option maxHeartbeats 4000000 in
theorem sat_impl_split_0 : Sat Tryz.prog rt0 154 (wkOut spSplit) := by
  refine fn_sat hm ttok (tab := tb154) tb154_ok Tryz.func154 (c := Tryz.f154.body.getD .skip) (by kernel_rfl) (ts := [.tmp 2, .tmp 3]) (by kernel_rfl) Tryz.ntmps154 (sq := fun id => !(id == 10)) (by kernel_rfl) ?_
  intro args ins pk hpre0 hpk
  obtain ⟨rfl, hpre0⟩ := hpre0
  obtain ⟨c, rfl, hpre, hdec⟩ := famPre_ex hpre0
  clear hpre0 hdec
  try simp only [spSplit_pre] at hpre
  replace hpk : pk + 0 ≤ pickLimit := hpk
  refine ⟨nle rfl, ?_⟩
  simp (maxSteps := 1000000) only [go_sem]
  repeat' (first | apply And.intro | (intro hh; first | (have h9 := okL_get hI.ok hh; cases h9) | skip) | omega | assumption | with_reducible rfl)
  all_goals try (refine drawI sat_impl_splitp1 (by decide +kernel) ?_; simp (maxSteps := 1000000) only [go_sem, planW, stepW, Go.VE.stepT, Go.VE.clearO]; repeat' (first | apply And.intro | (intro hh; first | (have h9 := okL_get hI.ok hh; cases h9) | skip) | omega | assumption | with_reducible rfl))
  any_goals
    refine loopS (α := (List Pt) × (List Pt) × (List Pt)) false [0, 1, 4, 5, 6, 7, 8, 9, 10, 11, 12, 13, 14, 15, 16, 17, 18, 19, 20, 21, 22, 23, 24, 25, 26, 27, 28, 29, 30, 31, 32, 33, 34, 35, 36, 37, 38, 39, 40, 41, 42, 43, 44, 45, 46, 47, 48, 49, 50, 51, 52, 53, 54, 55, 56, 57, 58, 59, 60, 61, 62, 63, 64, 66] (fun σ => [gId (σ.get 4), gId (σ.get 5)]) (fun σ x => [(4, .c (.own (gId (σ.get 4)) (x.1).length false)), (5, .c (.own (gId (σ.get 5)) (x.2.1).length false)), (6, .c (.sl false (x.2.2.map ptC)))]) (fun σ x => [(gId (σ.get 4), some ⟨(x.1).map ptC, 2, 40, true, false⟩), (gId (σ.get 5), some ⟨(x.2.1).map ptC, 2, 40, true, false⟩)]) (fun (L, R, m) => 0) (fun σ => (gL ptCd σ (σ.get 4), gL ptCd σ (σ.get 5), gL ptCd σ (σ.get 6))) (fun σ τ => [(gId (σ.get 4), gId (τ.get 4)), (gId (σ.get 5), gId (τ.get 5))]) (fun (L, R, m) => SpI c L R m) (fun (L, R, m) => m.length) ⟨by (simp (maxSteps := 1000000) only [go_sem]; (repeat' (first | apply And.intro | (intro hh; first | (have h9 := okL_get hI.ok hh; cases h9) | skip) | omega | assumption | with_reducible rfl)); all_goals (first | exact SpI.start hpre.1.2 hpre.2)), ?_⟩
    rintro ⟨L, R, m⟩ hinv
    try dsimp only at hinv
    simp (maxSteps := 1000000) only [go_sem]
    have h1 := hinv.len
    have h2 := hinv.l1
    have h3 := hinv.r1
    repeat' (first | apply And.intro | (intro hh; first | (have h9 := okL_get hI.ok hh; cases h9) | skip) | omega | assumption | with_reducible rfl)
    all_goals try (refine drawI sat_impl_splitp1 (by decide +kernel) ?_; simp (maxSteps := 1000000) only [go_sem, planW, stepW, Go.VE.stepT, Go.VE.clearO]; repeat' (first | apply And.intro | (intro hh; first | (have h9 := okL_get hI.ok hh; cases h9) | skip) | omega | assumption | with_reducible rfl))
  
  any_goals
    have hI := hinv
    refine loopS (α := (List Pt) × Int) false [0, 1, 7, 8, 9, 10, 11, 12, 13, 14, 15, 16, 17, 18, 19, 20, 21, 22, 23, 24, 25, 26, 27, 28, 29, 30, 31, 32, 33, 34, 35, 36, 37, 38, 39, 40, 41, 42, 43, 44, 45, 46, 47, 48, 49, 50, 51, 52, 53, 54, 55, 56, 57, 58, 59, 60, 61, 62, 63, 66] (fun σ => [gId (σ.get 7)]) (fun σ x => [(7, .c (.own (gId (σ.get 7)) (x.1).length false)), (8, I x.2)]) (fun σ x => [(gId (σ.get 7), some ⟨(x.1).map ptC, 2, 40, true, false⟩)]) (fun (nx, i) => 0) (fun σ => (gL ptCd σ (σ.get 7), gI (σ.get 8))) (fun σ τ => [(gId (σ.get 7), gId (τ.get 7))]) (fun (nx, i) => (1 ≤ i ∧ i ≤ m.length) ∧ nx = (mids m).take (i - 1).toNat) (fun (nx, i) => (m.length - i).toNat) ⟨by (simp (maxSteps := 1000000) only [go_sem]; (repeat' (first | apply And.intro | (intro hh; first | (have h9 := okL_get hI.ok hh; cases h9) | skip) | omega | assumption | with_reducible rfl)); all_goals (first | rfl)), ?_⟩
    rintro ⟨nx, i⟩ hinv
    try dsimp only at hinv
    simp (maxSteps := 1000000) only [go_sem]
    have hx : ¬ i < m.length → nx = mids m := fun h => by obtain ⟨h1, rfl⟩ := hinv; exact List.take_of_length_le (by rw [mids_len]; omega)
    have hl : nx.length = i.toNat - 1 := by obtain ⟨h1, rfl⟩ := hinv; rw [List.length_take, mids_len]; omega
    repeat' (first | apply And.intro | (intro hh; first | (have h9 := okL_get hI.ok hh; cases h9) | skip) | omega | assumption | with_reducible rfl)
    all_goals try (refine drawI sat_impl_splitp1 (by decide +kernel) ?_; simp (maxSteps := 1000000) only [go_sem, planW, stepW, Go.VE.stepT, Go.VE.clearO]; repeat' (first | apply And.intro | (intro hh; first | (have h9 := okL_get hI.ok hh; cases h9) | skip) | omega | assumption | with_reducible rfl))
  all_goals (first | ((refine mids_step2 hinv.2 hinv.1.1 ?_ ?_ ?_ ?_ <;> assumption); done) | ((have e := hx (by omega); subst e; refine hI.step ?_ ?_ <;> assumption); done) | ((rw [List.length_reverse]); done) | (exact (hinv.end (by omega)).1) | (exact (hinv.end (by omega)).2) | ((rw [List.length_reverse]; omega); done) | omega)
end
theorem sat_impl_split : Sat Tryz.prog rt0 154 (wkIn spSplit) := sat_in (sat_out sat_impl_split_0)
end
def flatI (D : Nat) (c : List Pt) : List Pt := c.headD default :: flatP D c
def spFlI_post (D : Nat) : List Pt × Int × Int → AV → List Box → Prop
  | (c, l, d), r, bs => r = .c (.own 0 (flatI D c).length false) ∧ bs = [⟨(flatI D c).map ptC, 2, 40, true, false⟩]
def spFlI (D : Nat) : VE.Spec := famSpec spFlat_A d_lpt_i_i (spFlat_pre D) (spFlI_post D) 0 true
theorem spFlI_q (D : Nat) : (spFlI D).flat = true ∧ (spFlI D).mt = [] ∧ (spFlI D).shut = false ∧ (spFlI D).cost = 0 ∧ (∀ a i, (spFlI D).pre a i = (i = [] ∧ famPre d_lpt_i_i spFlat_A (spFlat_pre D) a)) ∧ ∀ a i r b, (spFlI D).post a i r b = (famPost d_lpt_i_i (spFlI_post D) a r b) := ⟨rfl, rfl, rfl, rfl, fun _ _ => rfl, fun _ _ _ _ => rfl⟩
theorem lefts_hd {c : List Pt} (h : 1 ≤ c.length) : (lefts c).headD default = c.headD default := by rw [lefts_of (by omega)]; rfl
theorem flatI_end {D : Nat} {c : List Pt} {a b : Pt} (ha : c[0]? = some a) (hb : c[((c.length : Int) - 1).toNat]? = some b) (h : D = 0 ∨ bendP c ≤ 8) : [a, b] = flatI D c := by
  unfold flatI
  rw [head_of ha]
  rcases h with rfl | h
  · simp only [flatP, last_of hb]
  · cases D with
    | zero => simp only [flatP, last_of hb]
    | succ D => rw [flatP_yes h, last_of hb]
theorem flatI_step {D : Nat} {c : List Pt} (hc : 1 ≤ c.length) (h : ¬ bendP c ≤ 8) : flatI D (lefts c) ++ flatP D (rights c) = flatI (D + 1) c := by
  unfold flatI
  rw [flatP_no h, lefts_hd hc]; rfl
theorem flatI_two (D : Nat) (a b : List Pt) (n : Nat) (h : D ≤ 8) : (flatI D a).length + (List.drop 1 (List.take n (flatI D b))).length ≤ 600 := by
  have h1 := flatP_len D a
  have h2 := flatP_len D b
  have h3 : 2 ^ D ≤ 2 ^ 8 := Nat.pow_le_pow_right (by omega) h
  have h4 : (flatI D a).length = (flatP D a).length + 1 := rfl
  have h5 : (flatI D b).length = (flatP D b).length + 1 := rfl
  rw [List.length_drop, List.length_take]
  omega
theorem flatI_tail (D : Nat) (c : List Pt) : (flatI D c).drop 1 = flatP D c := rfl
theorem flatI_len (D : Nat) (c : List Pt) : (flatI D c).length = (flatP D c).length + 1 := rfl
set_option maxHeartbeats 4000000 in
theorem sat_flatI_0  : Sat Tryz.prog rt0 116 (wkOut (spFlI 0)) := by
  refine fn_sat hm ttok (tab := tabOf [(153, wkIn spBend), (154, wkIn spSplit)]) (tabOf_cons (by kernel_rfl) sat_impl_bend (tabOf_cons (by kernel_rfl) sat_impl_split tabOf_nil)) Tryz.func116 (c := Tryz.f116.body.getD .skip) (by kernel_rfl) (ts := [.tmp 6]) (by kernel_rfl) Tryz.ntmps116 (sq := fun _ => true) (by kernel_rfl) ?_
  intro args ins pk hpre0 hpk
  obtain ⟨rfl, hpre0⟩ := hpre0
  obtain ⟨⟨c, l, d⟩, rfl, hpre, hdec⟩ := famPre_ex hpre0
  clear hpre0 hdec
  simp only [spFlat_pre] at hpre
  obtain ⟨hc, hok, rfl, rfl⟩ := hpre
  replace hpk : pk + 0 ≤ pickLimit := hpk
  refine ⟨nle rfl, ?_⟩
  simp (maxSteps := 1000000) only [go_sem, Tryz.f116, tabOf.eq_2, tabOf.eq_1, spFlI_q, spFlat_A, spFlat_pre, spFlI_post, spBend_q, spBend_A, spBend_pre, spBend_post, spSplit_q, spSplit_A, spSplit_pre, spSplit_post]
  repeat' first | apply And.intro | intro _ | omega | assumption | with_reducible rfl
  all_goals (first | ((rw [lefts_len]; omega); done) | ((rw [rights_len]; omega); done) | (exact lefts_ok hok) | (exact rights_ok hok) | ((rw [← flatI_end ‹c[0]? = some _› ‹c[((c.length : Int) - 1).toNat]? = some _› (.inl rfl)]; rfl); done) | ((rw [← flatI_end ‹c[0]? = some _› ‹c[((c.length : Int) - 1).toNat]? = some _› (.inr ‹_›)]; rfl); done) | ((rw [flatI_len]; omega); done) | ((have h1 := flatI_two D (lefts c) (rights c) (flatI D (rights c)).length (by omega); omega); done) | ((simp only [List.take_length, flatI_tail]; rw [← flatI_step hc.1 ‹_›, List.length_append]); done) | ((simp only [List.take_length, flatI_tail, List.map_take, List.map_drop]; rw [← flatI_step hc.1 ‹_›, List.map_append]; rfl); done) | ((rw [← flatI_step hc.1 ‹_›, List.map_append, List.take_of_length_le (by simp)]; rfl); done) | omega)
set_option maxHeartbeats 4000000 in
theorem sat_flatI_1 (D : Nat) (hD : D ≤ 8) (ih : Sat Tryz.prog rt0 116 (wkIn (spFlI D))) : Sat Tryz.prog rt0 116 (wkOut (spFlI (D + 1))) := by
  refine fn_sat hm ttok (tab := tabOf [(153, wkIn spBend), (154, wkIn spSplit), (116, wkIn (spFlI D))]) (tabOf_cons (by kernel_rfl) sat_impl_bend (tabOf_cons (by kernel_rfl) sat_impl_split (tabOf_cons (by kernel_rfl) ih tabOf_nil))) Tryz.func116 (c := Tryz.f116.body.getD .skip) (by kernel_rfl) (ts := [.tmp 6]) (by kernel_rfl) Tryz.ntmps116 (sq := fun _ => true) (by kernel_rfl) ?_
  intro args ins pk hpre0 hpk
  obtain ⟨rfl, hpre0⟩ := hpre0
  obtain ⟨⟨c, l, d⟩, rfl, hpre, hdec⟩ := famPre_ex hpre0
  clear hpre0 hdec
  simp only [spFlat_pre] at hpre
  obtain ⟨hc, hok, rfl, rfl⟩ := hpre
  replace hpk : pk + 0 ≤ pickLimit := hpk
  refine ⟨nle rfl, ?_⟩
  simp (maxSteps := 1000000) only [go_sem, Tryz.f116, tabOf.eq_2, tabOf.eq_1, spFlI_q, spFlat_A, spFlat_pre, spFlI_post, spBend_q, spBend_A, spBend_pre, spBend_post, spSplit_q, spSplit_A, spSplit_pre, spSplit_post]
  repeat' first | apply And.intro | intro _ | omega | assumption | with_reducible rfl
  all_goals (first | ((rw [lefts_len]; omega); done) | ((rw [rights_len]; omega); done) | (exact lefts_ok hok) | (exact rights_ok hok) | ((rw [← flatI_end ‹c[0]? = some _› ‹c[((c.length : Int) - 1).toNat]? = some _› (.inl rfl)]; rfl); done) | ((rw [← flatI_end ‹c[0]? = some _› ‹c[((c.length : Int) - 1).toNat]? = some _› (.inr ‹_›)]; rfl); done) | ((rw [flatI_len]; omega); done) | ((have h1 := flatI_two D (lefts c) (rights c) (flatI D (rights c)).length (by omega); omega); done) | ((simp only [List.take_length, flatI_tail]; rw [← flatI_step hc.1 ‹_›, List.length_append]); done) | ((simp only [List.take_length, flatI_tail, List.map_take, List.map_drop]; rw [← flatI_step hc.1 ‹_›, List.map_append]; rfl); done) | ((rw [← flatI_step hc.1 ‹_›, List.map_append, List.take_of_length_le (by simp)]; rfl); done) | omega)
theorem sat_flatI : ∀ D : Nat, D ≤ 8 → Sat Tryz.prog rt0 116 (wkIn (spFlI D))
  | 0, _ => sat_in (sat_out sat_flatI_0)
  | D + 1, h => sat_in (sat_out (sat_flatI_1 D (by omega) (sat_flatI D (by omega))))
theorem sat_impl_flatten : Sat Tryz.prog rt0 116 (wkIn (spFlI 3)) := sat_flatI 3 (by decide)
section
theorem opn_prev2 {p : List Verb} {i : Int} {v : Verb} (h0 : 0 ≤ i) (hi : ¬ i = 0) (h : p[(i - 1).toNat]? = some v) : opn p i = decide (v.k = 4) := opn_prev (by omega) h
def tb75 : Nat → Option VE.Spec := tabOf [(48, wkIn spIn), (114, wkIn spVPts)]
theorem tb75_48 : tb75 48 = some (wkIn spIn) := rfl
theorem tb75_114 : tb75 114 = some (wkIn spVPts) := rfl
theorem tb75_ok : TabOK Tryz.prog rt0 tb75 := (tabOf_cons (by kernel_rfl) sat_impl_in (tabOf_cons (by kernel_rfl) sat_impl_pointsValid tabOf_nil))
section
attribute [local go_sem] Tryz.f75 tb75_48 tb75_114 spVPath_q spVPath_A spVPath_pre spVPath_post spIn_q spIn_A spIn_pre spIn_post spVPts_q spVPts_A spVPts_pre spVPts_post
set_option maxHeartbeats 4000000 in
theorem sat_impl_ValidPath_0 : Sat Tryz.prog rt0 75 (wkOut spVPath) := by
  refine fn_sat hm ttok (tab := tb75) tb75_ok Tryz.func75 (c := Tryz.f75.body.getD .skip) (by kernel_rfl) (ts := [.tmp 2]) (by kernel_rfl) Tryz.ntmps75 (sq := fun _ => true) (by kernel_rfl) ?_
  intro args ins pk hpre0 hpk
  obtain ⟨rfl, hpre0⟩ := hpre0
  obtain ⟨p, rfl, hpre, hdec⟩ := famPre_ex hpre0
  clear hpre0 hdec
  try simp only [spVPath_pre] at hpre
  replace hpk : pk + 0 ≤ pickLimit := hpk
  refine ⟨nle rfl, ?_⟩
  simp (maxSteps := 1000000) only [go_sem]
  repeat' first | apply And.intro | intro _ | omega | assumption | with_reducible rfl
  any_goals
    refine loopS (α := Int × Int) false [1, 2, 4, 5, 6, 7, 8, 11, 12, 13, 14, 15, 16, 17, 18, 19, 20, 21, 22, 23, 24, 25, 26, 27, 28, 29, 30, 31, 32, 33, 34, 35, 36, 37, 38, 39, 40, 41, 42, 43, 44, 45, 46, 47, 48, 49, 50, 51, 52, 53, 54, 55, 56, 57, 58, 59, 60, 61] (fun σ => []) (fun σ x => [(4, I x.1), (11, I x.2)]) (fun σ x => []) (fun (c, i) => 0) (fun σ => (gI (σ.get 4), gI (σ.get 11))) (fun σ τ => []) (fun (c, i) => 0 ≤ i ∧ i ≤ p.length ∧ vVerbs (opn p i) (p.drop i.toNat) = vVerbs true p ∧ c = nPts (p.take i.toNat)) (fun (c, i) => (p.length - i).toNat) ⟨by (simp (maxSteps := 1000000) only [go_sem]; (repeat' first | apply And.intro | intro _ | omega | assumption | with_reducible rfl); all_goals (first | rfl)), ?_⟩
    rintro ⟨c, i⟩ hinv
    try dsimp only at hinv
    rcases elemAt p i (by omega) with ⟨hlt, v, hk⟩ | hlt
    all_goals (first | ((have hlt2 := of_eq_true hlt); (have hlt2 : i < p.length := of_eq_true hlt); (have hT := nPts_mem hk); (have hS := nPts_step hk hinv.1); (have hV := vv_step hk hinv.1); (obtain ⟨k, ps⟩ := v); (dsimp only at hT hS); (rcases kind4 k with rfl | rfl | rfl | rfl | rfl | ⟨h0, h1, h2, h3, h4⟩); all_goals (first | simp (maxSteps := 1000000) only [go_sem, hlt, hk, h0, h1, h2, h3, h4] | simp (maxSteps := 1000000) only [go_sem, hlt, hk])) | (have hlt2 := of_eq_false hlt; (first | simp (maxSteps := 1000000) only [go_sem, hlt, h0, h1, h2, h3, h4] | simp (maxSteps := 1000000) only [go_sem, hlt])))
    all_goals
      repeat' first | apply And.intro | intro _ | omega | assumption | with_reducible rfl
  
  all_goals (first | ((exfalso; have e0 := of_eq_false h0; have e1 := of_eq_false h1; have e2 := of_eq_false h2; have e3 := of_eq_false h3; have e4 := of_eq_false h4; omega); done) | (exact (vv_bad hk hinv.1 hinv.2.2.1 (vVerb4 ‹_›)).symm) | (exact (vv_bad hk hinv.1 hinv.2.2.1 (vVerb_len (by simpa [many] using ‹¬ _›))).symm) | (exact (vv_bad hk hinv.1 hinv.2.2.1 (vVerb_kind (by have e0 := of_eq_false h0; have e1 := of_eq_false h1; have e2 := of_eq_false h2; have e3 := of_eq_false h3; have e4 := of_eq_false h4; dsimp only; omega))).symm; done) | ((rw [vPath_end (of_eq_false hlt) hinv]; simp [*]); done) | ((rw [← hinv.2.2.1, hV, opn_prev2 hinv.1 ‹¬ i = 0› ‹p[(i - 1).toNat]? = some _›]; simp [vVerb, many, *]); done) | (exact (vv_bad hk hinv.1 hinv.2.2.1 (by rw [opn_prev2 hinv.1 ‹¬ i = 0› ‹p[(i - 1).toNat]? = some _›]; simp [vVerb, many, *])).symm; done) | ((rw [← hinv.2.2.1, hV]; simp [vVerb, many, opn, *]); done) | (exact vv_bad hk hinv.1 hinv.2.2.1 (by simp [vVerb, many, opn, *])) | (exact (vv_bad hk hinv.1 hinv.2.2.1 (by simp [vVerb, many, opn, *])).symm) | ((have hge : (p.length : Int) ≤ i := by have := of_eq_false hlt; omega; simp_all [vPath, vv_end]); done) | (simp_all; done))
end
theorem sat_impl_ValidPath : Sat Tryz.prog rt0 75 (wkIn spVPath) := sat_in (sat_out sat_impl_ValidPath_0)
end
theorem rings_move {p : List Verb} {i : Int} {ps : List Pt} (hk : p[i.toNat]? = some ⟨0, ps⟩) (h0 : 0 ≤ i) (hl : ps.length = 1) : ringsOf (p.take (i + 1).toNat) = ringsOf (p.take i.toNat) ++ [ps] := by
  have e : [ps.headD default] = ps := by
    match ps, hl with
    | [a], _ => rfl
  unfold ringsOf
  rw [ringFold_step hk h0]
  generalize ringFold (p.take i.toNat) = s
  simp only [ringStep, if_true, e]
  rw [if_neg (by intro h; rw [h] at hl; cases hl)]
theorem rings_same {p : List Verb} {i : Int} {ps : List Pt} (hk : p[i.toNat]? = some ⟨4, ps⟩) (h0 : 0 ≤ i) : ringsOf (p.take (i + 1).toNat) = ringsOf (p.take i.toNat) := by
  unfold ringsOf
  rw [ringFold_step hk h0]
  rfl
theorem rings_line {p : List Verb} {i k : Int} {ps : List Pt} (h : vPath p = true) (hk : p[i.toNat]? = some ⟨k, ps⟩) (h0 : 0 ≤ i) (k1 : 1 ≤ k) (k3 : k ≤ 3) :
    ∃ A m, ringsOf (p.take i.toNat) = A ++ [m] ∧ okL m ∧ 1 ≤ m.length ∧ m.length ≤ 250 ∧ A.length ≤ 30 ∧ ringsOf (p.take (i + 1).toNat) = A ++ [m ++ flatP 3 (m.getLastD default :: ps)] := by
  have hp := ring_pos h hk h0 (by show k ≠ 0; omega)
  have hl := (List.getElem?_eq_some_iff.1 hk).1
  have hr := ringInv_at h i.toNat (by omega)
  have h30 := vPath_len h
  have hlen := hr.len
  have hnum := hr.num
  refine ⟨(ringFold (p.take i.toNat)).1, (ringFold (p.take i.toNat)).2, ?_, hr.ok, hp, by omega, by omega, ?_⟩
  · unfold ringsOf
    rw [if_neg (ring_len1 hp)]
  · have hs : ringStep (ringFold (p.take i.toNat)) ⟨k, ps⟩ = ((ringFold (p.take i.toNat)).1, (ringFold (p.take i.toNat)).2 ++ flatP 3 ((ringFold (p.take i.toNat)).2.getLastD default :: ps)) := by
      unfold ringStep
      rw [if_neg (by dsimp only; omega), if_neg (by dsimp only; omega)]
    unfold ringsOf
    rw [ringFold_step hk h0, hs]
    rw [if_neg (by intro hh; have := congrArg List.length hh; simp only [List.length_append, List.length_nil] at this; omega)]
theorem last_get {α : Type} (A : List α) (m : α) : (A ++ [m])[(((A ++ [m]).length : Int) - 1).toNat]? = some m := by
  rw [List.length_append, List.length_singleton, show (((A.length + 1 : Nat) : Int) - 1).toNat = A.length by omega, List.getElem?_append_right (Nat.le_refl _)]
  simp
theorem last_set {α : Type} (A : List α) (m x : α) : (A ++ [m]).set (((A ++ [m]).length : Int) - 1).toNat x = A ++ [x] := by
  rw [List.length_append, List.length_singleton, show (((A.length + 1 : Nat) : Int) - 1).toNat = A.length by omega, List.set_append_right _ _ (Nat.le_refl _)]
  simp
def spClone0_A : (List Pt) → List AV
  | l => [.c (.sl false (l.map ptC))]
def spClone0_pre : (List Pt) → Prop
  | l => l.length ≤ 1000000000
def spClone0_post : (List Pt) → AV → List Box → Prop
  | l, r, bs => r = .c (.own 0 (l).length false) ∧ bs = [⟨(l).map ptC, 2, 40, true, false⟩]
def spClone0 : VE.Spec := famSpec spClone0_A d_lpt spClone0_pre spClone0_post 0 false
theorem spClone0_q : SpQ spClone0 false [] false 0 (fun a i => i = [] ∧ famPre d_lpt spClone0_A spClone0_pre a) (fun a i r b => famPost d_lpt spClone0_post a r b) := ⟨rfl, rfl, rfl, rfl, fun _ _ => rfl, fun _ _ _ _ => rfl⟩
def spClipT_A : List Pt → List AV := fun l => [.c (.own 0 l.length false)]
def spClipT_B : List Pt → List Box := fun l => [⟨l.map ptC, 2, 40, true, false⟩]
def spClipT_d : List AV → List Box → Option (List Pt)
  | [.c (.own 0 _ false)], [⟨es, _, _, _, _⟩] => decAll ptCd es
  | _, _ => none
def spClipT_pre : List Pt → Prop := fun l => l.length ≤ 1000000000
def spClipT_post : List Pt → AV → List Box → Prop := fun l r bs => r = .c (.own 0 (l).length true) ∧ bs = [⟨(l).map ptC, 2, 40, true, false⟩]
def spClipT : VE.Spec := famSpecM spClipT_A spClipT_B spClipT_d spClipT_pre spClipT_post 0 false [true] false
theorem spClipT_q : SpQ spClipT false [true] false 0 (fun a i => famPreM spClipT_d spClipT_A spClipT_B spClipT_pre a i) (fun a i r b => famPostM spClipT_d spClipT_post a i r b) := ⟨rfl, rfl, rfl, rfl, fun _ _ => rfl, fun _ _ _ _ => rfl⟩
def spCloneT_A : (List Pt) → List AV
  | l => [.c (.sl false (l.map ptC))]
def spCloneT_pre : (List Pt) → Prop
  | l => l.length ≤ 1000000000
def spCloneT_post : (List Pt) → AV → List Box → Prop
  | l, r, bs => r = .c (.own 0 (l).length true) ∧ bs = [⟨(l).map ptC, 2, 40, true, false⟩]
def spCloneT : VE.Spec := famSpec spCloneT_A d_lpt spCloneT_pre spCloneT_post 0 false
theorem spCloneT_q : SpQ spCloneT false [] false 0 (fun a i => i = [] ∧ famPre d_lpt spCloneT_A spCloneT_pre a) (fun a i r b => famPost d_lpt spCloneT_post a r b) := ⟨rfl, rfl, rfl, rfl, fun _ _ => rfl, fun _ _ _ _ => rfl⟩
def tbT152 : Nat → Option VE.Spec := tabOf []
theorem tbT152_ok : TabOK Tryz.prog rt0 tbT152 := tabOf_nil
set_option maxHeartbeats 4000000 in
theorem satT_slices_Clone_impl_Point_impl_Point_0 : Sat Tryz.prog rt0 152 (wkOut spClone0) := by
  refine fn_sat hm ttok (tab := tbT152) tbT152_ok Tryz.func152 (c := Tryz.f152.body.getD .skip) (by kernel_rfl) (ts := [.tmp 2]) (by kernel_rfl) Tryz.ntmps152 (sq := fun _ => true) (by kernel_rfl) ?_
  intro args ins pk hpre0 hpk
  obtain ⟨rfl, hpre0⟩ := hpre0
  obtain ⟨l, rfl, hpre, hdec⟩ := famPre_ex hpre0
  clear hpre0 hdec
  try simp only [spClone0_pre] at hpre
  replace hpk : pk + 0 ≤ pickLimit := hpk
  refine ⟨nle rfl, ?_⟩
  simp (maxSteps := 1000000) only [go_sem, Tryz.f152, spClone0_q, spClone0_A, spClone0_pre, spClone0_post]
  repeat' first | apply And.intro | intro _ | omega | assumption | with_reducible rfl
  all_goals (first | ((obtain rfl := nil_of (l := l) ‹_› ‹_›; rfl); done))
theorem satT_slices_Clone_impl_Point_impl_Point : Sat Tryz.prog rt0 152 (wkIn spClone0) := sat_in (sat_out satT_slices_Clone_impl_Point_impl_Point_0)
def tbT151 : Nat → Option VE.Spec := tabOf []
theorem tbT151_ok : TabOK Tryz.prog rt0 tbT151 := tabOf_nil
set_option maxHeartbeats 4000000 in
theorem satT_slices_Clip_impl_Point_impl_Point_0 : Sat Tryz.prog rt0 151 spClipT := by
  refine fn_sat hm ttok (tab := tbT151) tbT151_ok Tryz.func151 (c := Tryz.f151.body.getD .skip) (by kernel_rfl) (ts := [.tmp 2]) (by kernel_rfl) Tryz.ntmps151 (sq := fun _ => true) (by kernel_rfl) ?_
  intro args ins pk hpre0 hpk
  obtain ⟨l, rfl, rfl, hpre, hdec⟩ := famPreM_ex hpre0
  clear hpre0 hdec
  try simp only [spClipT_pre] at hpre
  replace hpk : pk + 0 ≤ pickLimit := hpk
  refine ⟨nle rfl, ?_⟩
  simp (maxSteps := 1000000) only [go_sem, Tryz.f151, spClipT_q, spClipT_A, spClipT_B, spClipT_d, spClipT_pre, spClipT_post]
  repeat' first | apply And.intro | intro _ | omega | assumption | with_reducible rfl
  all_goals (first | omega)
theorem satT_slices_Clip_impl_Point_impl_Point : Sat Tryz.prog rt0 151 (wkIn spClipT) := sat_in satT_slices_Clip_impl_Point_impl_Point_0
def tbT115 : Nat → Option VE.Spec := tabOf [(152, wkIn spClone0), (151, wkIn spClipT)]
theorem tbT115_152 : tbT115 152 = some (wkIn spClone0) := rfl
theorem tbT115_151 : tbT115 151 = some (wkIn spClipT) := rfl
theorem tbT115_ok : TabOK Tryz.prog rt0 tbT115 := (tabOf_cons (by kernel_rfl) satT_slices_Clone_impl_Point_impl_Point (tabOf_cons (by kernel_rfl) satT_slices_Clip_impl_Point_impl_Point tabOf_nil))
set_option maxHeartbeats 4000000 in
theorem satT_impl_clone_impl_Point_0 : Sat Tryz.prog rt0 115 spCloneT := by
  refine fn_sat hm ttok (tab := tbT115) tbT115_ok Tryz.func115 (c := Tryz.f115.body.getD .skip) (by kernel_rfl) (ts := [.tmp 2]) (by kernel_rfl) Tryz.ntmps115 (sq := fun _ => true) (by kernel_rfl) ?_
  intro args ins pk hpre0 hpk
  obtain ⟨rfl, hpre0⟩ := hpre0
  obtain ⟨l, rfl, hpre, hdec⟩ := famPre_ex hpre0
  clear hpre0 hdec
  try simp only [spCloneT_pre] at hpre
  replace hpk : pk + 0 ≤ pickLimit := hpk
  refine ⟨nle rfl, ?_⟩
  simp (maxSteps := 1000000) only [go_sem, Tryz.f115, tbT115_152, tbT115_151, spCloneT_q, spCloneT_A, spCloneT_pre, spCloneT_post, spClone0_q, spClone0_A, spClone0_pre, spClone0_post, spClipT_q, spClipT_A, spClipT_B, spClipT_d, spClipT_pre, spClipT_post]
  repeat' first | apply And.intro | intro _ | omega | assumption | with_reducible rfl
  all_goals (first | omega)
theorem satT_impl_clone_impl_Point : Sat Tryz.prog rt0 115 (wkIn spCloneT) := sat_in satT_impl_clone_impl_Point_0
def ltptC (x : List Pt) : List C := [.sl true (x.map ptC)]
def ltptCd : List C → Option (List Pt)
  | [.sl _ es] => decAll ptCd es
  | _ => none
theorem ltptC_dec (k : List Pt) : ltptCd (ltptC k) = some k := ptC_ds k
theorem ltptC_wk (k : List Pt) : wkCs (ltptC k) = lptC k := by simp [ltptC, lptC, wkCs, wkC, ptC_wks]
theorem ltptC_wks (l : List (List Pt)) : wkEs (l.map ltptC) = l.map lptC := by
  rw [wkEs_map, List.map_map]
  exact List.map_congr_left fun k _ => ltptC_wk k
theorem ltptC_ds (l : List (List Pt)) : decAll ltptCd (l.map ltptC) = some l := decAll_map (g := ltptC) ltptC_dec l
theorem ltptC_len (k : (List Pt)) : (ltptC k).length = 1 := rfl
theorem ltptC_takeN (k : (List Pt)) : List.take 1 (ltptC k) = ltptC k := rfl
theorem ltptC_takeA (k : (List Pt)) (l : List C) : List.take 1 (ltptC k ++ l) = ltptC k := rfl
theorem ltptC_dropA (k : (List Pt)) (l : List C) : List.drop 1 (ltptC k ++ l) = l := rfl
theorem ltptC_takeB (k : (List Pt)) (m : Nat) (l : List C) : List.take (m + 1) (ltptC k ++ l) = ltptC k ++ List.take m l := rfl
theorem ltptC_dropB (k : (List Pt)) (m : Nat) (l : List C) : List.drop (m + 1) (ltptC k ++ l) = List.drop m l := rfl
theorem ltptC_dropN (k : (List Pt)) : List.drop 1 (ltptC k) = [] := rfl
theorem ltptC_all (l : List (List Pt)) : (∀ e ∈ l.map ltptC, e.length = 1) = True := all_len ltptC_len l
theorem ltptC_strip (k : (List Pt)) : List.map strip (ltptC k) = ltptC k := rfl
theorem ltptC_seal (s : St) (k : (List Pt)) : List.map (sealC s) (ltptC k) = ltptC k := rfl
theorem ltptC_ren (s : St) (i : List Nat) (k : (List Pt)) : List.map (renC s i) (ltptC k) = ltptC k := rfl
theorem ltptC_exp (s : St) (i : List Nat) (k : (List Pt)) : List.map (expC s i) (ltptC k) = ltptC k := rfl
theorem ltptC_map (f : Nat → Nat) (k : (List Pt)) : List.map (mapC f) (ltptC k) = ltptC k := rfl
theorem ltptC_gat (s : St) (i : List Nat) (k : (List Pt)) : gather s 64 i (ltptC k) = i := rfl
theorem ltptC_rok (s : St) (l i : List Nat) (k : (List Pt)) : renOks s l i (ltptC k) = True := eq_true (by repeat' constructor)
theorem ltptC_row (k : (List Pt)) : rowIds (ltptC k) = [] := rfl
theorem ltptC_eok (s : St) (i : List Nat) (k : (List Pt)) : expOks s i (ltptC k) = True := eq_true (by repeat' constructor)
theorem ltptC_sok (s : St) (k : (List Pt)) : sealOks s (ltptC k) = True := eq_true (by repeat' constructor)
theorem ltptC_okR (k : (List Pt)) : okRs (ltptC k) = True := eq_true (by repeat' constructor)
theorem ltptC_okC (k : (List Pt)) : okCs (ltptC k) = True := eq_true (by repeat' constructor)
theorem ltptC_okR0 (k : (List Pt)) : okR0s (ltptC k) = True := eq_true (by repeat' constructor)
theorem ltptC_inj (a b : (List Pt)) : (ltptC a = ltptC b) = (a = b) := by
  refine propext ⟨fun h => ?_, fun h => by rw [h]⟩
  have := congrArg ltptCd h
  rw [ltptC_dec, ltptC_dec] at this
  exact Option.some.inj this
theorem ltptC_minj (a b : List (List Pt)) : (a.map ltptC = b.map ltptC) = (a = b) := by
  refine propext ⟨fun h => ?_, fun h => by rw [h]⟩
  have := congrArg (decAll ltptCd) h
  rw [ltptC_ds, ltptC_ds] at this
  exact Option.some.inj this
theorem ltptC_le (s : St) (ρ : List (Nat × Nat)) (hp : List (Nat × Option Box)) (k : (List Pt)) : leCs s ρ hp (ltptC k) (ltptC k) = True := eq_true (by repeat' first | constructor | (intro h; cases h))
attribute [go_sem] ltptC_le ltptC_inj ltptC_minj ltptC_dec ltptC_ds ltptC_len ltptC_takeN ltptC_takeA ltptC_dropA ltptC_takeB ltptC_dropB ltptC_dropN ltptC_all ltptC_strip ltptC_seal ltptC_ren ltptC_exp ltptC_map ltptC_gat ltptC_rok ltptC_row ltptC_eok ltptC_sok ltptC_okR ltptC_okR0 ltptC_okC ltptC_wk ltptC_wks ltptC ltptCd.eq_1
section
def spClipL_A : List (List Pt) → List AV := fun l => [.c (.own 0 l.length false)]
def spClipL_B : List (List Pt) → List Box := fun l => [⟨l.map ltptC, 1, 129, true, false⟩]
def spClipL_d : List AV → List Box → Option (List (List Pt))
  | [.c (.own 0 _ false)], [⟨es, _, _, _, _⟩] => decAll ltptCd es
  | _, _ => none
def spClipL_pre : List (List Pt) → Prop := fun l => l.length ≤ 1000000000
def spClipL_post : List (List Pt) → AV → List Box → Prop := fun l r bs => r = .c (.own 0 (l).length true) ∧ bs = [⟨(l).map ltptC, 1, 129, true, false⟩]
def spClipL : VE.Spec := famSpecM spClipL_A spClipL_B spClipL_d spClipL_pre spClipL_post 0 false [true] false
theorem spClipL_q : SpQ spClipL false [true] false 0 (fun a i => famPreM spClipL_d spClipL_A spClipL_B spClipL_pre a i) (fun a i r b => famPostM spClipL_d spClipL_post a i r b) := ⟨rfl, rfl, rfl, rfl, fun _ _ => rfl, fun _ _ _ _ => rfl⟩
def tb117 : Nat → Option VE.Spec := tabOf []
theorem tb117_ok : TabOK Tryz.prog rt0 tb117 := tabOf_nil
set_option maxHeartbeats 4000000 in
theorem satL_slices_Clip_impl_Point_impl_Point_0 : Sat Tryz.prog rt0 117 spClipL := by
  refine fn_sat hm ttok (tab := tb117) tb117_ok Tryz.func117 (c := Tryz.f117.body.getD .skip) (by kernel_rfl) (ts := [.tmp 2]) (by kernel_rfl) Tryz.ntmps117 (sq := fun _ => true) (by kernel_rfl) ?_
  intro args ins pk hpre0 hpk
  obtain ⟨l, rfl, rfl, hpre, hdec⟩ := famPreM_ex hpre0
  clear hpre0 hdec
  try simp only [spClipL_pre] at hpre
  replace hpk : pk + 0 ≤ pickLimit := hpk
  refine ⟨nle rfl, ?_⟩
  simp (maxSteps := 1000000) only [go_sem, Tryz.f117, spClipL_q, spClipL_A, spClipL_B, spClipL_d, spClipL_pre, spClipL_post]
  repeat' first | apply And.intro | intro _ | omega | assumption | with_reducible rfl
  all_goals (first | omega)
theorem satL_slices_Clip_impl_Point_impl_Point : Sat Tryz.prog rt0 117 (wkIn spClipL) := sat_in satL_slices_Clip_impl_Point_impl_Point_0
theorem flatI_td (c : List Pt) : List.drop 1 (List.take (flatI 3 c).length (flatI 3 c)) = flatP 3 c := by rw [List.take_length]; rfl
theorem flatP_ne (d : Nat) (c : List Pt) : (flatP d c = []) = False := eq_false fun h => by
  have := (flatP_len d c).1
  rw [h] at this
  cases this
theorem last_q {m : List Pt} (h : 1 ≤ m.length) : m[((m.length : Int) - 1).toNat]? = some (m.getLastD default) := by
  rw [show ((m.length : Int) - 1).toNat = m.length - 1 by omega, ← List.getLast?_eq_getElem?, List.getLastD_eq_getLast?]
  cases hm : m.getLast? with
  | none => rw [List.getLast?_eq_none_iff] at hm; subst hm; cases h
  | some a => rfl
theorem one_of {ps : List Pt} (h : (ps.length : Int) = many 0) : ps.length = 1 := by
  have h9 : (ps.length : Int) = 1 := h
  omega
theorem ringsOf_len {p : List Verb} (h : vPath p = true) (i : Int) (h1 : i ≤ p.length) : (ringsOf (p.take i.toNat)).length ≤ 31 := by
  have h2 := (ringInv_at h i.toNat (by omega)).num
  have h3 := vPath_len h
  unfold ringsOf
  split
  · omega
  · simp only [List.length_append, List.length_singleton]; omega
def tb77 : Nat → Option VE.Spec := tabOf [(115, wkIn spCloneT), (116, wkIn (spFlI 3)), (117, wkIn spClipL)]
theorem tb77_115 : tb77 115 = some (wkIn spCloneT) := rfl
theorem tb77_116 : tb77 116 = some (wkIn (spFlI 3)) := rfl
theorem tb77_117 : tb77 117 = some (wkIn spClipL) := rfl
theorem tb77_ok : TabOK Tryz.prog rt0 tb77 := (tabOf_cons (by kernel_rfl) satT_impl_clone_impl_Point (tabOf_cons (by kernel_rfl) sat_impl_flatten (tabOf_cons (by kernel_rfl) satL_slices_Clip_impl_Point_impl_Point tabOf_nil)))
@[go_sem] def sat_impl_ringsp1 : VE.Plan := pF 0 (pF 1 (pF 2 (pF 3 (pF 4 (pF 5 (pF 7 (pF 8 (pA 6 (pA 9 (pA 10 pN pN) pN) pN))))))))
section
attribute [local go_sem] Tryz.f77 tb77_115 tb77_116 tb77_117 spRings_q spRings_A spRings_pre spRings_post spCloneT_q spCloneT_A spCloneT_pre spCloneT_post spFlI_q spFlat_A spFlat_pre spFlI_post spClipL_q spClipL_A spClipL_B spClipL_d spClipL_pre spClipL_post
set_option maxHeartbeats 4000000 in
theorem sat_impl_rings_0 : Sat Tryz.prog rt0 77 (wkOut spRings) := by
  refine fn_sat hm ttok (tab := tb77) tb77_ok Tryz.func77 (c := Tryz.f77.body.getD .skip) (by kernel_rfl) (ts := [.tmp 2]) (by kernel_rfl) Tryz.ntmps77 (sq := fun id => !(id == 12)) (by kernel_rfl) ?_
  intro args ins pk hpre0 hpk
  obtain ⟨rfl, hpre0⟩ := hpre0
  obtain ⟨p, rfl, hpre, hdec⟩ := famPre_ex hpre0
  clear hpre0 hdec
  try simp only [spRings_pre] at hpre
  replace hpk : pk + 0 ≤ pickLimit := hpk
  refine ⟨nle rfl, ?_⟩
  simp (maxSteps := 1000000) only [go_sem, flatI_td, flatP_ne, List.map_eq_nil_iff, List.length_set, List.length_append, List.length_singleton, List.map_append]
  repeat' first | apply And.intro | intro _ | omega | assumption | with_reducible rfl
  all_goals try (refine drawI sat_impl_ringsp1 (by decide +kernel) ?_; simp (maxSteps := 1000000) only [go_sem, planW, stepW, Go.VE.stepT, Go.VE.clearO, flatI_td, flatP_ne, List.map_eq_nil_iff, List.length_set, List.length_append, List.length_singleton, List.map_append]; repeat' first | apply And.intro | intro _ | omega | assumption | with_reducible rfl)
  any_goals
    refine loopS (α := (List (List Pt)) × Int) false [0, 1, 3, 4, 5, 6, 7, 10, 11, 12, 13, 14, 15, 16, 17, 18, 19, 20, 21, 22, 23, 24, 25, 26, 27, 28, 29, 30, 31, 32, 33, 34, 35, 36, 37, 38, 39, 40, 41, 42, 43, 44, 45, 46, 47, 48, 49, 50, 51, 52, 53, 54, 55] (fun σ => [gId (σ.get 3)]) (fun σ x => [(3, .c (.own (gId (σ.get 3)) (x.1).length false)), (10, I x.2)]) (fun σ x => [(gId (σ.get 3), some ⟨(x.1).map ltptC, 1, 129, true, false⟩)]) (fun (o, i) => 0) (fun σ => (gL ltptCd σ (σ.get 3), gI (σ.get 10))) (fun σ τ => [(gId (σ.get 3), gId (τ.get 3))]) (fun (o, i) => 0 ≤ i ∧ i ≤ p.length ∧ o = ringsOf (p.take i.toNat)) (fun (o, i) => (p.length - i).toNat) ⟨by (simp (maxSteps := 1000000) only [go_sem, flatI_td, flatP_ne, List.map_eq_nil_iff, List.length_set, List.length_append, List.length_singleton, List.map_append]; (repeat' first | apply And.intro | intro _ | omega | assumption | with_reducible rfl); all_goals (first | rfl)), ?_⟩
    rintro ⟨o, i⟩ hinv
    try dsimp only at hinv
    rcases elemAt p i (by omega) with ⟨hlt, v, hk⟩ | hlt
    all_goals (first | ((have hlt2 := of_eq_true hlt); (have hV := vPath_at hpre hinv.1 hk); (have hb := vVerb_pts hV); (have h30 := vPath_len hpre); (have ho31 := ringsOf_len hpre i hinv.2.1); (rw [← hinv.2.2] at ho31); (have hM := many_pos hb.1); (obtain ⟨k, ps⟩ := v); (dsimp only at hb hM); (rcases kind4 k with rfl | rfl | rfl | rfl | rfl | ⟨h0, h1, h2, h3, h4⟩); (all_goals try (have hM2 := hM (by decide) (by decide))); (all_goals try (have hX := rings_line hpre hk hinv.1 (by decide) (by decide); obtain ⟨A, m, ho, hm, hm1, hm250, hA, hn⟩ := hX; have ho2 : o = A ++ [m] := hinv.2.2.trans ho; have hol : o.length = A.length + 1 := (by rw [ho2]; simp); have hO : o[((o.length : Int) - 1).toNat]? = some m := (by rw [ho2]; exact last_get A m); have hQ := last_q hm1; have hq := okL_getLastD hm hm1; have hf2 := flatP_len 3 (m.getLastD default :: ps); have hset : ∀ x, o.set (((o.length : Int) - 1).toNat) x = A ++ [x] := fun x => (by rw [ho2]; exact last_set A m x))); all_goals (first | simp (maxSteps := 1000000) only [go_sem, flatI_td, flatP_ne, List.map_eq_nil_iff, List.length_set, List.length_append, List.length_singleton, List.map_append, hlt, hk, hO, hQ] | simp (maxSteps := 1000000) only [go_sem, flatI_td, flatP_ne, List.map_eq_nil_iff, List.length_set, List.length_append, List.length_singleton, List.map_append, hlt, hk, h0, h1, h2, h3, h4] | simp (maxSteps := 1000000) only [go_sem, flatI_td, flatP_ne, List.map_eq_nil_iff, List.length_set, List.length_append, List.length_singleton, List.map_append, hlt, hk])) | (have hlt2 := of_eq_false hlt; (first | simp (maxSteps := 1000000) only [go_sem, flatI_td, flatP_ne, List.map_eq_nil_iff, List.length_set, List.length_append, List.length_singleton, List.map_append, hlt, hO, hQ] | simp (maxSteps := 1000000) only [go_sem, flatI_td, flatP_ne, List.map_eq_nil_iff, List.length_set, List.length_append, List.length_singleton, List.map_append, hlt, h0, h1, h2, h3, h4] | simp (maxSteps := 1000000) only [go_sem, flatI_td, flatP_ne, List.map_eq_nil_iff, List.length_set, List.length_append, List.length_singleton, List.map_append, hlt])))
    all_goals
      repeat' first | apply And.intro | intro _ | omega | assumption | with_reducible rfl
    all_goals try (refine drawI sat_impl_ringsp1 (by decide +kernel) ?_; (first | simp (maxSteps := 1000000) only [go_sem, planW, stepW, Go.VE.stepT, Go.VE.clearO, flatI_td, flatP_ne, List.map_eq_nil_iff, List.length_set, List.length_append, List.length_singleton, List.map_append, hlt, hk, hO, hQ] | simp (maxSteps := 1000000) only [go_sem, planW, stepW, Go.VE.stepT, Go.VE.clearO, flatI_td, flatP_ne, List.map_eq_nil_iff, List.length_set, List.length_append, List.length_singleton, List.map_append, hlt, hk, h0, h1, h2, h3, h4] | simp (maxSteps := 1000000) only [go_sem, planW, stepW, Go.VE.stepT, Go.VE.clearO, flatI_td, flatP_ne, List.map_eq_nil_iff, List.length_set, List.length_append, List.length_singleton, List.map_append, hlt, hk] | simp (maxSteps := 1000000) only [go_sem, planW, stepW, Go.VE.stepT, Go.VE.clearO, flatI_td, flatP_ne, List.map_eq_nil_iff, List.length_set, List.length_append, List.length_singleton, List.map_append]); repeat' first | apply And.intro | intro _ | omega | assumption | with_reducible rfl)
  
  all_goals (first | ((rw [rings_move hk hinv.1 (one_of hb.1), hinv.2.2]); done) | ((rw [hset, hn]); done) | (rfl; done) | (exact okL_cons hq hb.2.1) | ((rw [flatI_len]; omega); done) | ((rw [List.map_set]; simp only [ltptC, List.map_append]); done) | ((rw [hinv.2.2]; exact (rings_same hk hinv.1).symm); done) | ((rw [hinv.2.2, takeA (by omega)]); done) | ((have h9 := ringsOf_len hpre i hinv.2.1; rw [← hinv.2.2] at h9; omega); done) | ((exfalso; have h5 := hb.2.2.1; simp only [eq_iff_iff, iff_false] at *; omega); done))
end
theorem sat_impl_rings : Sat Tryz.prog rt0 77 (wkIn spRings) := sat_in (sat_out sat_impl_rings_0)
end
theorem rings_tot2 {p : List Verb} (h : vPath p = true) : (ringsOf p).length ≤ 1000000000 ∧ total (ringsOf p) ≤ 1000000000 := by
  have h1 := rings_total h
  have h2 := (rings_ok h).2.1
  omega
end Go.Proofs.YtcejoknapbhloaaGreat
