/- Contracts of functions of the program vectorraster, each proved for all states that fit its description. No conditions. -/
import Derived.Test.YtcejoknapbhloaaGreatPA
import Derived.Test.YtcejoknapbhloaaGreatPE
import Derived.Test.YtcejoknapbhloaaGreatKK
set_option linter.unusedSimpArgs false
set_option linter.unusedVariables false
set_option maxRecDepth 100000
namespace Go.Proofs.YtcejoknapbhloaaGreat
open Go Go.VE
section
def ringE (r : List Pt) : List Edge := (r.zip (r.drop 1 ++ r.take 1)).map fun p => ⟨p.1, p.2⟩
def edgesOf (L : List (List Pt)) : List Edge := L.flatMap ringE
theorem ringE_len (r : List Pt) : (ringE r).length = r.length := by simp [ringE]; omega
theorem ringE_get {r : List Pt} {k : Int} {p q : Pt} (hp : r[k.toNat]? = some p) (hq : r[((k + 1).tmod r.length).toNat]? = some q) (h0 : 0 ≤ k) : (ringE r)[k.toNat]? = some ⟨p, q⟩ := by
  have hk := (List.getElem?_eq_some_iff.1 hp).1
  simp only [ringE, List.getElem?_map, List.getElem?_zip_eq_some, Option.map_eq_some_iff]
  refine ⟨(p, q), ⟨hp, ?_⟩, rfl⟩
  rw [Int.tmod_eq_emod_of_nonneg (by omega)] at hq
  by_cases h : k.toNat + 1 < r.length
  · rw [Int.emod_eq_of_lt (by omega) (by omega), show (k + 1).toNat = k.toNat + 1 by omega] at hq
    rw [List.getElem?_append_left (by rw [List.length_drop]; omega), List.getElem?_drop, Nat.add_comm]
    exact hq
  · have e : k + 1 = r.length := by omega
    rw [e, Int.emod_self] at hq
    rw [List.getElem?_append_right (by rw [List.length_drop]; omega), List.length_drop, show k.toNat - (r.length - 1) = 0 by omega, List.getElem?_take]
    simpa using hq
theorem ringE_step {r : List Pt} {k : Int} {p q : Pt} (hp : r[k.toNat]? = some p) (hq : r[((k + 1).tmod r.length).toNat]? = some q) (h0 : 0 ≤ k) : (ringE r).take (k + 1).toNat = (ringE r).take k.toNat ++ [⟨p, q⟩] := takeN (ringE_get hp hq h0) h0
theorem edgesOf_snoc (L : List (List Pt)) (r : List Pt) : edgesOf (L ++ [r]) = edgesOf L ++ ringE r := by simp [edgesOf]
theorem edgesOf_len (L : List (List Pt)) : (edgesOf L).length = total L := by
  induction L with
  | nil => rfl
  | cons r L ih => simp only [edgesOf, List.flatMap_cons, List.length_append, ringE_len, total, List.map_cons, List.sum_cons] at *; rw [ih]
theorem tmod_lt {a : Int} {n : Nat} (h : 0 < n) (h0 : 0 ≤ a) : 0 ≤ a.tmod n ∧ a.tmod n < n := ⟨Int.tmod_nonneg _ h0, Int.tmod_lt_of_pos _ (by omega)⟩
def spEdges_A : (List (List Pt)) → List AV
  | L => [.c (.sl false (L.map lptC))]
def spEdges_pre : (List (List Pt)) → Prop
  | L => L.length ≤ 1000000000 ∧ total L ≤ 1000000000
def spEdges_post : (List (List Pt)) → AV → List Box → Prop
  | L, r, bs => r = .c (.own 0 (edgesOf L).length false) ∧ bs = [⟨(edgesOf L).map edC, 4, 169, true, false⟩]
def spEdges : VE.Spec := famSpec spEdges_A d_llpt spEdges_pre spEdges_post 0 true
theorem spEdges_q : SpQ spEdges true [] false 0 (fun a i => i = [] ∧ famPre d_llpt spEdges_A spEdges_pre a) (fun a i r b => famPost d_llpt spEdges_post a r b) := ⟨rfl, rfl, rfl, rfl, fun _ _ => rfl, fun _ _ _ _ => rfl⟩
def tb157 : Nat → Option VE.Spec := tabOf []
theorem tb157_ok : TabOK Tryz.prog rt0 tb157 := tabOf_nil
section
attribute [local go_sem] Tryz.f157 spEdges_q spEdges_A spEdges_pre spEdges_post
set_option maxHeartbeats 4000000 in
theorem sat_impl_edges_0 : Sat Tryz.prog rt0 157 (wkOut spEdges) := by
  refine fn_sat hm ttok (tab := tb157) tb157_ok Tryz.func157 (c := Tryz.f157.body.getD .skip) (by kernel_rfl) (ts := [.tmp 2]) (by kernel_rfl) Tryz.ntmps157 (sq := fun _ => true) (by kernel_rfl) ?_
  intro args ins pk hpre0 hpk
  obtain ⟨rfl, hpre0⟩ := hpre0
  obtain ⟨L, rfl, hpre, hdec⟩ := famPre_ex hpre0
  clear hpre0 hdec
  try simp only [spEdges_pre] at hpre
  replace hpk : pk + 0 ≤ pickLimit := hpk
  refine ⟨nle rfl, ?_⟩
  simp (maxSteps := 1000000) only [go_sem]
  repeat' first | apply And.intro | intro _ | omega | assumption | with_reducible rfl
  refine loopS (α := (List Edge) × Int) false [0, 1, 3, 4, 5, 6, 7, 10, 11, 12, 13, 14, 15, 16, 17, 18, 19, 20, 21, 22, 23, 24, 25, 26, 27, 28, 29, 30, 31, 32, 33, 34, 35] (fun σ => [gId (σ.get 3)]) (fun σ x => [(3, .c (.own (gId (σ.get 3)) (x.1).length false)), (10, I x.2)]) (fun σ x => [(gId (σ.get 3), some ⟨(x.1).map edC, 4, 169, true, false⟩)]) (fun (o, i) => 0) (fun σ => (gL edCd σ (σ.get 3), gI (σ.get 10))) (fun σ τ => [(gId (σ.get 3), gId (τ.get 3))]) (fun (o, i) => 0 ≤ i ∧ i ≤ L.length ∧ o = edgesOf (L.take i.toNat)) (fun (o, i) => (L.length - i).toNat) ⟨by (simp (maxSteps := 1000000) only [go_sem]; (repeat' first | apply And.intro | intro _ | omega | assumption | with_reducible rfl); all_goals (first | grind [edgesOf])), ?_⟩
  rintro ⟨o, i⟩ hinv
  try dsimp only at hinv
  simp (maxSteps := 1000000) only [go_sem]
  repeat' first | apply And.intro | intro _ | omega | assumption | with_reducible rfl
  any_goals
    rename_i r hr
    have hT := total_mem hr
    refine loopS (α := (List Edge) × Int) false [0, 1, 3, 4, 6, 7, 11, 12, 13, 16, 17, 18, 19, 20, 21, 22, 23, 24, 25, 26, 27, 28, 29, 30, 31, 32, 33, 34] (fun σ => [gId (σ.get 3)]) (fun σ x => [(3, .c (.own (gId (σ.get 3)) (x.1).length false)), (16, I x.2)]) (fun σ x => [(gId (σ.get 3), some ⟨(x.1).map edC, 4, 169, true, false⟩)]) (fun (o, k) => 0) (fun σ => (gL edCd σ (σ.get 3), gI (σ.get 16))) (fun σ τ => [(gId (σ.get 3), gId (τ.get 3))]) (fun (o, k) => 0 ≤ k ∧ k ≤ r.length ∧ o = edgesOf (L.take i.toNat) ++ (ringE r).take k.toNat) (fun (o, k) => (r.length - k).toNat) ⟨by (simp (maxSteps := 1000000) only [go_sem]; (repeat' first | apply And.intro | intro _ | omega | assumption | with_reducible rfl); all_goals (first | grind [edgesOf])), ?_⟩
    rintro ⟨o, k⟩ hinv
    try dsimp only at hinv
    simp (maxSteps := 1000000) only [go_sem]
    repeat' first | apply And.intro | intro _ | omega | assumption | with_reducible rfl
  all_goals (first | (exact (tmod_lt (by omega) (by omega)).1) | (exact (tmod_lt (by omega) (by omega)).2) | ((obtain ⟨h0, h1, rfl⟩ := hinv; simp only [List.length_append, edgesOf_len, List.length_take, ringE_len]; omega); done) | ((obtain ⟨h0, h1, rfl⟩ := hinv; rw [ringE_step ‹_› ‹_› h0, List.append_assoc]); done) | ((obtain ⟨h0, h1, rfl⟩ := hinv; rw [takeN hr (by omega), edgesOf_snoc, takeA (l := ringE _) (by rw [ringE_len]; omega)]); done) | ((obtain ⟨h0, h1, rfl⟩ := hinv; rw [takeA (by omega)]); done))
end
theorem sat_impl_edges : Sat Tryz.prog rt0 157 (wkIn spEdges) := sat_in (sat_out sat_impl_edges_0)
end
def windE (es : List Edge) (x y : Int) : Int := (es.map fun e => con e x y).sum
def wind (L : List (List Pt)) (x y : Int) : Int := windE (edgesOf L) x y
theorem windE_snoc (a : List Edge) (e : Edge) (x y : Int) : windE (a ++ [e]) x y = windE a x y + con e x y := by simp [windE]
theorem stepE_bd (e : Edge) (y : Int) : -1 ≤ stepE e y ∧ stepE e y ≤ 1 := by unfold stepE; split <;> (try split) <;> omega
theorem con_bd (e : Edge) (x y : Int) : -1 ≤ con e x y ∧ con e x y ≤ 1 := by
  have := stepE_bd e y
  unfold con; split <;> omega
theorem windE_bd : ∀ (es : List Edge) (x y : Int), -(es.length : Int) ≤ windE es x y ∧ windE es x y ≤ es.length
  | [], _, _ => by simp [windE]
  | e :: r, x, y => by
    have h1 := windE_bd r x y
    have h2 := con_bd e x y
    simp only [windE, List.map_cons, List.sum_cons, List.length_cons] at *
    omega
theorem vRings_ok {L : List (List Pt)} (h : vRings L = true) : okLL L := by
  simp only [vRings, Bool.and_eq_true, List.all_eq_true] at h
  refine ⟨fun r hr => ?_⟩
  have := h.1.1 r hr
  simp only [vRing, Bool.and_eq_true] at this
  exact vPts_ok this.2
theorem ringE_ok {r : List Pt} (h : okL r) : ∀ e ∈ ringE r, okE e := by
  intro e he
  simp only [ringE, List.mem_map] at he
  obtain ⟨⟨a, b⟩, hm, rfl⟩ := he
  have := List.of_mem_zip hm
  refine ⟨h.all _ this.1, ?_⟩
  rcases List.mem_append.1 this.2 with h2 | h2
  · exact h.all _ (List.mem_of_mem_drop h2)
  · exact h.all _ (List.mem_of_mem_take h2)
theorem edges_ok {L : List (List Pt)} (h : okLL L) : ∀ e ∈ edgesOf L, okE e := by
  intro e he
  obtain ⟨r, hr, hm⟩ := List.mem_flatMap.1 he
  exact ringE_ok (h.all r hr) e hm
theorem edges_len {L : List (List Pt)} (h : vRings L = true) : (edgesOf L).length ≤ 200 := by rw [edgesOf_len]; exact (vRings_len h).2
theorem edge_at {L : List (List Pt)} {i : Int} {e : Edge} (h : vRings L = true) (he : (edgesOf L)[i.toNat]? = some e) : okE e := edges_ok (vRings_ok h) e (List.mem_of_getElem? he)
theorem con_yes {e : Edge} {x y : Int} (h : leftE e x y = true) : con e x y = stepE e y := if_pos h
theorem con_no {e : Edge} {x y : Int} (h : leftE e x y = false) : con e x y = 0 := by rw [con, h]; rfl
theorem con_0 {e : Edge} {x y : Int} (h : stepE e y = 0) : con e x y = 0 := by rw [con, h]; split <;> rfl
theorem wind_part {L : List (List Pt)} {i k : Int} {r : List Pt} (h : vRings L = true) (hr : L[i.toNat]? = some r) (x y : Int) : -200 ≤ windE (edgesOf (L.take i.toNat) ++ (ringE r).take k.toNat) x y ∧ windE (edgesOf (L.take i.toNat) ++ (ringE r).take k.toNat) x y ≤ 200 := by
  have h1 := windE_bd (edgesOf (L.take i.toNat) ++ (ringE r).take k.toNat) x y
  have h2 := total_mem hr
  have h3 := (vRings_len h).2
  rw [List.length_append, edgesOf_len, List.length_take, ringE_len] at h1
  omega
theorem ok_at {L : List (List Pt)} {i k : Int} {r : List Pt} {p : Pt} (h : vRings L = true) (hr : L[i.toNat]? = some r) (hp : r[k.toNat]? = some p) : okP p := ((vRings_ok h).all r (List.mem_of_getElem? hr)).all p (List.mem_of_getElem? hp)
def spWind_A : (List (List Pt)) × Int × Int → List AV
  | (L, x, y) => [.c (.sl false (L.map lptC)), I x, I y]
def spWind_pre : (List (List Pt)) × Int × Int → Prop
  | (L, x, y) => vRings L = true ∧ (-3000 ≤ x ∧ x ≤ 3000) ∧ -3000 ≤ y ∧ y ≤ 3000
def spWind_post : (List (List Pt)) × Int × Int → AV → List Box → Prop
  | (L, x, y), r, bs => r = I (wind L x y) ∧ bs = []
def spWind : VE.Spec := famSpec spWind_A d_llpt_i_i spWind_pre spWind_post 0 true
theorem spWind_q : SpQ spWind true [] false 0 (fun a i => i = [] ∧ famPre d_llpt_i_i spWind_A spWind_pre a) (fun a i r b => famPost d_llpt_i_i spWind_post a r b) := ⟨rfl, rfl, rfl, rfl, fun _ _ => rfl, fun _ _ _ _ => rfl⟩
section
def tb128 : Nat → Option VE.Spec := tabOf [(157, wkIn spEdges), (158, wkIn spStep), (159, wkIn spLeft)]
theorem tb128_157 : tb128 157 = some (wkIn spEdges) := rfl
theorem tb128_158 : tb128 158 = some (wkIn spStep) := rfl
theorem tb128_159 : tb128 159 = some (wkIn spLeft) := rfl
theorem tb128_ok : TabOK Tryz.prog rt0 tb128 := (tabOf_cons (by kernel_rfl) sat_impl_edges (tabOf_cons (by kernel_rfl) sat_impl_Edge_step (tabOf_cons (by kernel_rfl) sat_impl_Edge_left tabOf_nil)))
section
attribute [local go_sem] Tryz.f128 tb128_157 tb128_158 tb128_159 spWind_q spWind_A spWind_pre spWind_post spEdges_q spEdges_A spEdges_pre spEdges_post spStep_q spStep_A spStep_pre spStep_post spLeft_q spLeft_A spLeft_pre spLeft_post
set_option maxHeartbeats 4000000 in
theorem sat_impl_winding_0 : Sat Tryz.prog rt0 128 (wkOut spWind) := by
  refine fn_sat hm ttok (tab := tb128) tb128_ok Tryz.func128 (c := Tryz.f128.body.getD .skip) (by kernel_rfl) (ts := [.tmp 6]) (by kernel_rfl) Tryz.ntmps128 (sq := fun _ => true) (by kernel_rfl) ?_
  intro args ins pk hpre0 hpk
  obtain ⟨rfl, hpre0⟩ := hpre0
  obtain ⟨⟨L, x, y⟩, rfl, hpre, hdec⟩ := famPre_ex hpre0
  clear hpre0 hdec
  try simp only [spWind_pre] at hpre
  replace hpk : pk + 0 ≤ pickLimit := hpk
  refine ⟨nle rfl, ?_⟩
  simp (maxSteps := 1000000) only [go_sem]
  repeat' first | apply And.intro | intro _ | omega | assumption | with_reducible rfl
  any_goals
    refine loopS (α := Int × Int) false [0, 3, 4, 5, 7, 8, 9, 10, 11, 14, 15, 16, 17, 18, 19, 20, 21, 22, 23, 24, 25, 26, 27, 28, 29, 30, 31, 32] (fun σ => []) (fun σ x => [(7, I x.1), (14, I x.2)]) (fun σ x => []) (fun (n, i) => 0) (fun σ => (gI (σ.get 7), gI (σ.get 14))) (fun σ τ => []) (fun (n, i) => 0 ≤ i ∧ i ≤ (edgesOf L).length ∧ n = windE ((edgesOf L).take i.toNat) x y) (fun (n, i) => ((edgesOf L).length - i).toNat) ⟨by (simp (maxSteps := 1000000) only [go_sem]; (repeat' first | apply And.intro | intro _ | omega | assumption | with_reducible rfl); all_goals (first | rfl)), ?_⟩
    rintro ⟨n, i⟩ hinv
    try dsimp only at hinv
    rcases elemAt (edgesOf L) i (by omega) with ⟨hlt, e, hk⟩ | hlt
    all_goals (first | ((have hlt2 := of_eq_true hlt); (have hE := edge_at hpre.1 hk); (have hB := windE_bd ((edgesOf L).take i.toNat) x y); (have hl := edges_len hpre.1); (have hs := stepE_bd e y); (rw [List.length_take] at hB); all_goals simp (maxSteps := 1000000) only [go_sem, hlt, hk]) | (have hlt2 := of_eq_false hlt; simp (maxSteps := 1000000) only [go_sem, hlt]))
    all_goals
      repeat' first | apply And.intro | intro _ | omega | assumption | with_reducible rfl
  
  all_goals (first | ((have h1 := vRings_len hpre.1; omega); done) | (exact hE.1) | (exact hE.2) | ((rw [takeN hk hinv.1, windE_snoc, con_yes ‹_›, hinv.2.2]); done) | ((rw [takeN hk hinv.1, windE_snoc, con_no ‹_›, hinv.2.2, Int.add_zero]); done) | ((rw [takeN hk hinv.1, windE_snoc, con_0 ‹_›, hinv.2.2, Int.add_zero]); done) | ((rw [hinv.2.2, takeA (by omega)]; rfl); done))
end
theorem sat_impl_winding : Sat Tryz.prog rt0 128 (wkIn spWind) := sat_in (sat_out sat_impl_winding_0)
end
section
def tb135 : Nat → Option VE.Spec := tabOf [(164, wkIn spStepOf)]
theorem tb135_164 : tb135 164 = some (wkIn spStepOf) := rfl
theorem tb135_ok : TabOK Tryz.prog rt0 tb135 := (tabOf_cons (by kernel_rfl) sat_spec_stepOf tabOf_nil)
section
attribute [local go_sem] Tryz.f135 tb135_164 spWind_q spWind_A spWind_pre spWind_post spStepOf_q spStepOf_A spStepOf_pre spStepOf_post
set_option maxHeartbeats 4000000 in
theorem sat_spec_winding_0 : Sat Tryz.prog rt0 135 (wkOut spWind) := by
  refine fn_sat hm ttok (tab := tb135) tb135_ok Tryz.func135 (c := Tryz.f135.body.getD .skip) (by kernel_rfl) (ts := [.tmp 6]) (by kernel_rfl) Tryz.ntmps135 (sq := fun _ => true) (by kernel_rfl) ?_
  intro args ins pk hpre0 hpk
  obtain ⟨rfl, hpre0⟩ := hpre0
  obtain ⟨⟨L, x, y⟩, rfl, hpre, hdec⟩ := famPre_ex hpre0
  clear hpre0 hdec
  try simp only [spWind_pre] at hpre
  replace hpk : pk + 0 ≤ pickLimit := hpk
  refine ⟨nle rfl, ?_⟩
  simp (maxSteps := 1000000) only [go_sem]
  repeat' first | apply And.intro | intro _ | omega | assumption | with_reducible rfl
  refine loopS (α := Int × Int) false [3, 4, 5, 7, 8, 9, 10, 11, 12, 13, 14, 15, 16, 17, 18, 19, 20, 21, 22, 23, 24, 25, 26, 27, 28, 29, 30, 31, 32, 33, 34, 35, 36, 37, 38, 39, 40, 41, 42, 43, 44, 45, 46, 47, 48, 49, 50] (fun σ => []) (fun σ x => [(7, I x.1), (8, I x.2)]) (fun σ x => []) (fun (n, i) => 0) (fun σ => (gI (σ.get 7), gI (σ.get 8))) (fun σ τ => []) (fun (n, i) => 0 ≤ i ∧ i ≤ L.length ∧ n = windE (edgesOf (L.take i.toNat)) x y) (fun (n, i) => (L.length - i).toNat) ⟨by (simp (maxSteps := 1000000) only [go_sem]; (repeat' first | apply And.intro | intro _ | omega | assumption | with_reducible rfl); all_goals (first | rfl)), ?_⟩
  rintro ⟨n, i⟩ hinv
  try dsimp only at hinv
  rcases elemAt L i (by omega) with ⟨hlt, r, hk⟩ | hlt
  all_goals (first | ((have hlt2 := of_eq_true hlt); (have hT := total_mem hk); (have h8 := vRings_len hpre.1); all_goals simp (maxSteps := 1000000) only [go_sem, hlt, hk]) | (have hlt2 := of_eq_false hlt; simp (maxSteps := 1000000) only [go_sem, hlt]))
  all_goals
    repeat' first | apply And.intro | intro _ | omega | assumption | with_reducible rfl
  any_goals
    have hk0 := hk
    have hlt0 := hlt
    refine loopS (α := Int × Int) false [3, 4, 5, 7, 9, 10, 11, 12, 13, 14, 15, 16, 17, 18, 19, 20, 21, 22, 23, 24, 25, 26, 27, 28, 29, 30, 31, 32, 33, 34, 35, 36, 37, 38, 39, 40, 41, 42, 43, 44, 45, 46, 47, 48, 49, 50] (fun σ => []) (fun σ x => [(7, I x.1), (9, I x.2)]) (fun σ x => []) (fun (n, k) => 0) (fun σ => (gI (σ.get 7), gI (σ.get 9))) (fun σ τ => []) (fun (n, k) => 0 ≤ k ∧ k ≤ r.length ∧ n = windE (edgesOf (L.take i.toNat) ++ (ringE r).take k.toNat) x y) (fun (n, k) => (r.length - k).toNat) ⟨by (simp (maxSteps := 1000000) only [go_sem]; (repeat' first | apply And.intro | intro _ | omega | assumption | with_reducible rfl); all_goals (first | (simp only [Int.toNat_zero, List.take_zero, List.append_nil]; exact hinv.2.2))), ?_⟩
    rintro ⟨n, k⟩ hinv
    try dsimp only at hinv
    rcases elemAt r k (by omega) with ⟨hlt, p, hk⟩ | hlt
    all_goals (first | ((have hlt2 := of_eq_true hlt); (have hB := wind_part (k := k) hpre.1 hk0 x y); (have hp := ok_at hpre.1 hk0 hk); all_goals (first | simp (maxSteps := 1000000) only [go_sem, hlt, hk, hlt0, hk0] | simp (maxSteps := 1000000) only [go_sem, hlt, hk])) | (have hlt2 := of_eq_false hlt; (first | simp (maxSteps := 1000000) only [go_sem, hlt, hlt0, hk0] | simp (maxSteps := 1000000) only [go_sem, hlt])))
    all_goals
    repeat' first | apply And.intro | intro _ | omega | assumption | with_reducible rfl
  all_goals (first | (exact (tmod_lt (by omega) (by omega)).1) | (exact (tmod_lt (by omega) (by omega)).2) | (exact ok_at hpre.1 hk0 ‹_›) | ((have h9 := con_bd ⟨_, _⟩ x y; omega); done) | ((have h9 := con_bd ⟨p, ‹Pt›⟩ x y; omega); done) | ((rw [ringE_step hk ‹_› hinv.1, ← List.append_assoc, windE_snoc, hinv.2.2]); done) | ((rw [hinv.2.2, takeA (l := ringE r) (by rw [ringE_len]; omega), takeN hk0 (by omega), edgesOf_snoc]); done) | ((rw [hinv.2.2, takeA (by omega)]; rfl); done))
end
theorem sat_spec_winding : Sat Tryz.prog rt0 135 (wkIn spWind) := sat_in (sat_out sat_spec_winding_0)
end
end Go.Proofs.YtcejoknapbhloaaGreat
