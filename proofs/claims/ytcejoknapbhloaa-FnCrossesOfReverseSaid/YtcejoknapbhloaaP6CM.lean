/- Contracts of functions of the program vectorraster, each proved for all states that fit its description. No conditions. -/
import Derived.Test.YtcejoknapbhloaaP1
import Derived.Test.YtcejoknapbhloaaP3
set_option maxRecDepth 100000
set_option linter.unusedSimpArgs false
set_option linter.unusedVariables false
namespace Go.Proofs.Ytcejoknapbhloaa
open Go Go.VE
def atS (l : List Cross) (x : Int) : Int := ((l.filter fun c => decide (c.a = x)).map (·.s)).sum
theorem atS_perm {a b : List Cross} (h : a.Perm b) (x : Int) : atS a x = atS b x := sum_perm ((h.filter _).map _)
theorem atS_app (a b : List Cross) (x : Int) : atS (a ++ b) x = atS a x + atS b x := by simp [atS]
theorem leftE_sw {e : Edge} {x y : Int} (hs : ¬ stepE e y = 0) : leftE (swE e) x y = leftE e x y := by
  have h := con_sw e x y
  have hs2 : ¬ stepE (swE e) y = 0 := by rw [stepE_sw]; omega
  cases h1 : leftE (swE e) x y with
  | true =>
    cases h2 : leftE e x y with
    | true => rfl
    | false => rw [con_yes h1, con_no h2] at h; omega
  | false =>
    cases h2 : leftE e x y with
    | false => rfl
    | true => rw [con_no h1, con_yes h2] at h; omega
theorem firstS_sw {e : Edge} {y : Int} (hs : ¬ stepE e y = 0) : firstS (swE e) y = firstS e y := by
  unfold firstS
  congr 2
  funext n
  exact leftE_sw hs
theorem atS_sw (y x : Int) : ∀ es : List Edge, atS (crOf (es.map swE) y) x = -atS (crOf es y) x
  | [] => rfl
  | e :: r => by
    have ih := atS_sw y x r
    have e1 : crOf (e :: r) y = crOf [e] y ++ crOf r y := crOf_app [e] r y
    have e2 : crOf ((e :: r).map swE) y = crOf [swE e] y ++ crOf (r.map swE) y := crOf_app [swE e] (r.map swE) y
    rw [e1, e2, atS_app, atS_app, ih]
    by_cases h : stepE e y = 0
    · rw [crOf_no h, crOf_no (by rw [stepE_sw, h]; rfl)]
      simp [atS]
    · rw [crOf_yes h, crOf_yes (by rw [stepE_sw]; omega), firstS_sw h, stepE_sw]
      by_cases hx : firstS e y = x
      · simp [atS, hx]; omega
      · simp [atS, hx]
theorem crOf_sw_len (y : Int) : ∀ es : List Edge, (crOf (es.map swE) y).length = (crOf es y).length
  | [] => rfl
  | e :: r => by
    have ih := crOf_sw_len y r
    have e1 : crOf (e :: r) y = crOf [e] y ++ crOf r y := crOf_app [e] r y
    have e2 : crOf ((e :: r).map swE) y = crOf [swE e] y ++ crOf (r.map swE) y := crOf_app [swE e] (r.map swE) y
    rw [e1, e2, List.length_append, List.length_append, ih]
    by_cases h : stepE e y = 0
    · rw [crOf_no h, crOf_no (by rw [stepE_sw, h]; rfl)]
    · rw [crOf_yes h, crOf_yes (by rw [stepE_sw]; omega)]; rfl
theorem crOf_perm {a b : List Edge} (h : a.Perm b) (y : Int) : (crOf a y).Perm (crOf b y) := (h.filter _).map _
theorem crS_rev_at (L : List (List Pt)) (y x : Int) : atS (crS (revL L) y) x = -atS (crS L y) x := by
  rw [crS, crS, atS_perm (srt_perm _), atS_perm (srt_perm _), atS_perm (crOf_perm (edges_rev L) y), atS_sw]
theorem crS_rev_len (L : List (List Pt)) (y : Int) : (crS (revL L) y).length = (crS L y).length := by
  rw [crS, crS, srt_len, srt_len, (crOf_perm (edges_rev L) y).length_eq, crOf_sw_len]
theorem crV_rev (L : List (List Pt)) (w x : Int) : atS (crV (revL L) w) x = -atS (crV L w) x ∧ (crV (revL L) w).length = (crV L w).length := by
  unfold crV
  rw [vRings_rev]
  split
  · exact ⟨crS_rev_at _ _ _, crS_rev_len _ _⟩
  · exact ⟨rfl, rfl⟩
theorem crV_len (L : List (List Pt)) (w : Int) : (crV L w).length ≤ 200 := by
  unfold crV
  split
  · rename_i h
    simp only [Bool.and_eq_true] at h
    exact crS_200 h.1 _
  · simp
theorem crV_ok (L : List (List Pt)) (w : Int) : ∀ c ∈ crV L w, (0 ≤ c.a ∧ c.a ≤ 48) ∧ -1 ≤ c.s ∧ c.s ≤ 1 := by
  unfold crV
  split
  · exact crS_ok _ _
  · intro c hc; cases hc
theorem crV_ord (L : List (List Pt)) (w : Int) : OrdC (crV L w) := by
  unfold crV
  split
  · exact srt_OrdC _
  · exact ⟨List.Pairwise.nil⟩
theorem crV_sum (L : List (List Pt)) (w : Int) : ((crV L w).map (·.s)).sum = 0 := by
  unfold crV
  split
  · exact crS_sum0 _ _
  · rfl
theorem crV_at {L : List (List Pt)} {w : Int} {i : Nat} {c : Cross} (h : (crV L w)[i]? = some c) : (0 ≤ c.a ∧ c.a ≤ 48) ∧ -1 ≤ c.s ∧ c.s ≤ 1 := crV_ok L w c (List.mem_of_getElem? h)
theorem tk_bd (L : List (List Pt)) (w : Int) (i : Nat) : -200 ≤ (((crV L w).take i).map (·.s)).sum ∧ (((crV L w).take i).map (·.s)).sum ≤ 200 := by
  have h1 := sum_bd1 (A := (crV L w).take i) fun c hc => (crV_ok L w c (List.mem_of_mem_take hc)).2
  have h2 := crV_len L w
  rw [List.length_take] at h1
  omega
theorem atS_step {l : List Cross} {i x : Int} {c : Cross} (hc : l[i.toNat]? = some c) (h0 : 0 ≤ i) : atS (l.take (i + 1).toNat) x = atS (l.take i.toNat) x + if c.a = x then c.s else 0 := by
  rw [takeN hc h0, atS_app]
  congr 1
  by_cases h : c.a = x
  · simp [atS, h]
  · simp [atS, h]
theorem atS_bd {L : List (List Pt)} {w x : Int} (i : Nat) : -200 ≤ atS ((crV L w).take i) x ∧ atS ((crV L w).take i) x ≤ 200 := by
  have h1 := sum_bd1 (A := ((crV L w).take i).filter fun c => decide (c.a = x)) fun c hc => (crV_ok L w c (List.mem_of_mem_take (List.mem_filter.1 hc).1)).2
  have h2 := crV_len L w
  have h3 := List.length_filter_le (fun c : Cross => decide (c.a = x)) ((crV L w).take i)
  rw [List.length_take] at h3
  unfold atS; omega
def toS (l : List Cross) (x : Int) : Int := stepsTo l x
theorem toS_step {l : List Cross} {i x : Int} {c : Cross} (hc : l[i.toNat]? = some c) (h0 : 0 ≤ i) : stepsTo (l.take (i + 1).toNat) x = stepsTo (l.take i.toNat) x + if c.a ≤ x then c.s else 0 := by
  rw [takeN hc h0]
  have e : stepsTo (l.take i.toNat ++ [c]) x = stepsTo (l.take i.toNat) x + stepsTo [c] x := by simp [stepsTo]
  rw [e]
  congr 1
  by_cases h : c.a ≤ x
  · simp [stepsTo, h]
  · simp [stepsTo, h]
theorem toS_bd {L : List (List Pt)} {w x : Int} (i : Nat) : -200 ≤ stepsTo ((crV L w).take i) x ∧ stepsTo ((crV L w).take i) x ≤ 200 := by
  have h1 := sum_bd1 (A := ((crV L w).take i).filter fun c => decide (c.a ≤ x)) fun c hc => (crV_ok L w c (List.mem_of_mem_take (List.mem_filter.1 hc).1)).2
  have h2 := crV_len L w
  have h3 := List.length_filter_le (fun c : Cross => decide (c.a ≤ x)) ((crV L w).take i)
  rw [List.length_take] at h3
  unfold stepsTo; omega
theorem runB_congr {f g : Nat → Bool} : ∀ n, (∀ s, s < n → f s = g s) → runB f n = runB g n
  | 0, _ => rfl
  | n + 1, h => by
    have ih := runB_congr n fun s hs => h s (by omega)
    rw [runB, runB, h n (by omega), ih]
theorem insC_crS {L : List (List Pt)} {y rl : Int} {s : Nat} (hs : s < 48) : insC (crS L y) rl s = insN (wind L (2 + 4 * (s : Int)) y) rl := by
  rw [insC, steps_wind (by omega) (by omega)]
theorem spV_rev (L : List (List Pt)) (rl w : Int) : spV (revL L) rl w = spV L rl w := by
  unfold spV
  rw [vRings_rev]
  split
  · refine runB_congr 48 fun s hs => ?_
    rw [insC_crS hs, insC_crS hs, wind_rev, insN_neg]
  · rfl
theorem spV_len (L : List (List Pt)) (rl w : Int) : (spV L rl w).length ≤ 24 := by
  unfold spV
  split
  · have := (runB_len (f := insC (crS L (2 + 4 * w)) rl) 48).1; omega
  · simp
theorem spV_ok (L : List (List Pt)) (rl w : Int) : (∀ p ∈ spV L rl w, 0 ≤ p.f ∧ p.f < p.t ∧ p.t ≤ 48) ∧ (spV L rl w).Pairwise (fun (p q : Span) => p.t < q.f) := by
  unfold spV
  split
  · have := runB_mono (f := insC (crS L (2 + 4 * w)) rl) 48
    exact ⟨fun p hp => by have := this.1 p hp; omega, this.2.1⟩
  · exact ⟨fun p hp => (by cases hp), List.Pairwise.nil⟩
theorem spV_at {L : List (List Pt)} {rl w : Int} {i : Nat} {p : Span} (h : (spV L rl w)[i]? = some p) : 0 ≤ p.f ∧ p.f < p.t ∧ p.t ≤ 48 := (spV_ok L rl w).1 p (List.mem_of_getElem? h)
theorem spV_gap {L : List (List Pt)} {rl w : Int} {i : Int} {p q : Span} (h0 : 0 < i) (hp : (spV L rl w)[i.toNat]? = some p) (hq : (spV L rl w)[(i - 1).toNat]? = some q) : q.t < p.f := by
  obtain ⟨h1, rfl⟩ := List.getElem?_eq_some_iff.1 hp
  obtain ⟨h2, rfl⟩ := List.getElem?_eq_some_iff.1 hq
  exact List.pairwise_iff_getElem.1 (spV_ok L rl w).2 (i - 1).toNat i.toNat h2 h1 (by omega)
theorem spV_in {L : List (List Pt)} {rl w s : Int} (hv : vRings L = true) (hr : isRl rl = true) (hw : 0 ≤ w ∧ w ≤ 47) (h0 : 0 ≤ s) (h1 : s < 48) : ((spV L rl w).any fun p => decide (p.f ≤ s) && decide (s < p.t)) = insN (wind L (2 + 4 * s) (2 + 4 * w)) rl := by
  have h := (runB_mono (f := insC (crS L (2 + 4 * w)) rl) 48).2.2.1 s.toNat (by omega)
  rw [insC_crS (by omega), Int.toNat_of_nonneg h0] at h
  rw [spV_yes hv hr hw]
  have e : ((runB (insC (crS L (2 + 4 * w)) rl) 48).any fun p => decide (p.f ≤ s) && decide (s < p.t)) = true ↔ insN (wind L (2 + 4 * s) (2 + 4 * w)) rl = true := by
    rw [← h, List.any_eq_true]
    constructor
    · rintro ⟨p, hp, hh⟩
      simp only [Bool.and_eq_true, decide_eq_true_eq] at hh
      exact ⟨p, hp, hh.1, hh.2⟩
    · rintro ⟨p, hp, hh⟩
      exact ⟨p, hp, by simp only [Bool.and_eq_true, decide_eq_true_eq]; exact hh⟩
  exact Bool.eq_iff_iff.2 e
theorem okS_all (L : List (List Pt)) (rl w : Int) : (spV L rl w).all okS = true := List.all_eq_true.2 fun p hp => by
  have := (spV_ok L rl w).1 p hp
  simp only [okS, decide_eq_true_eq]; omega
def cntW (f : Nat → Bool) (c : Int) : Nat → Int
  | 0 => 0
  | n + 1 => cntW f c n + if f n = true ∧ 4 * c ≤ (n : Int) ∧ (n : Int) < 4 * c + 4 then 1 else 0
theorem ovl_ext {f t c : Int} (h : f ≤ t) : ovl ⟨f, t + 1⟩ c = ovl ⟨f, t⟩ c + (if 4 * c ≤ t ∧ t < 4 * c + 4 then 1 else 0) := by
  simp only [ovl, Int.max_def, Int.min_def]
  repeat' split
  all_goals omega
theorem ovl_new {t c : Int} : ovl ⟨t, t + 1⟩ c = if 4 * c ≤ t ∧ t < 4 * c + 4 then 1 else 0 := by
  simp only [ovl, Int.max_def, Int.min_def]
  repeat' split
  all_goals omega
theorem ovls_run (f : Nat → Bool) (c : Int) : ∀ n, ovls (runB f n) c = cntW f c n
  | 0 => rfl
  | n + 1 => by
    have ih := ovls_run f c n
    have hm := (runB_mono (f := f) n).1
    rw [cntW]
    cases hf : f n with
    | false => rw [runB_no hf, ih]; simp
    | true =>
      by_cases hl : ∃ p, (runB f n).getLast? = some p ∧ p.t = (n : Int)
      · obtain ⟨p, hp, ht⟩ := hl
        obtain ⟨o, ho⟩ := List.getLast?_eq_some_iff.1 hp
        rw [runB_ext hf ho ht]
        rw [ho, ovls_snoc] at ih
        have hp0 := hm p (by rw [ho]; simp)
        rw [ovls_snoc, ← ih, ovl_ext (by omega), show (⟨p.f, p.t⟩ : Span) = p from rfl]
        simp only [hf, true_and, ht]
        omega
      · have hn : ∀ p, (runB f n).getLast? = some p → ¬ p.t = (n : Int) := fun p hp ht => hl ⟨p, hp, ht⟩
        rw [runB_new hf hn, ovls_snoc, ih, ovl_new]
        simp only [hf, true_and]
theorem cntW_before (f : Nat → Bool) (c : Int) : ∀ n : Nat, (n : Int) ≤ 4 * c → cntW f c n = 0
  | 0, _ => rfl
  | n + 1, h => by rw [cntW, cntW_before f c n (by omega), if_neg (by omega)]; rfl
theorem cntW_after (f : Nat → Bool) (c : Int) (m : Nat) (hm : 4 * c + 4 ≤ (m : Int)) : ∀ d : Nat, cntW f c (m + d) = cntW f c m
  | 0 => rfl
  | d + 1 => by rw [show m + (d + 1) = m + d + 1 by omega, cntW, cntW_after f c m hm d, if_neg (by omega)]; omega
theorem cntW_col (f : Nat → Bool) (c : Nat) (hc : c ≤ 11) : cntW f c 48 = sumN (fun a => if f (4 * c + a) = true then 1 else 0) 4 := by
  have h1 := cntW_after f c (4 * c + 4) (by omega) (48 - (4 * c + 4))
  rw [show 4 * c + 4 + (48 - (4 * c + 4)) = 48 by omega] at h1
  rw [h1]
  have h0 := cntW_before f c (4 * c) (by omega)
  have hw : ∀ a : Nat, a < 4 → (f (4 * c + a) = true ∧ 4 * (c : Int) ≤ ((4 * c + a : Nat) : Int) ∧ ((4 * c + a : Nat) : Int) < 4 * (c : Int) + 4 ↔ f (4 * c + a) = true) := fun a ha => ⟨fun h => h.1, fun h => ⟨h, by omega, by omega⟩⟩
  simp only [sumN]
  rw [show 4 * c + 4 = 4 * c + 3 + 1 by omega, cntW, show 4 * c + 3 = 4 * c + 2 + 1 by omega, cntW, show 4 * c + 2 = 4 * c + 1 + 1 by omega, cntW, show 4 * c + 1 = 4 * c + 0 + 1 by omega, cntW, Nat.add_zero, h0]
  have e3 := hw 3 (by omega)
  have e2 := hw 2 (by omega)
  have e1 := hw 1 (by omega)
  have e0 := hw 0 (by omega)
  rw [Nat.add_zero] at e0
  simp only [show 4 * c + 0 + 1 + 1 + 1 = 4 * c + 3 by omega, show 4 * c + 0 + 1 + 1 = 4 * c + 2 by omega, show 4 * c + 0 + 1 = 4 * c + 1 by omega, show 4 * c + 1 + 1 + 1 = 4 * c + 3 by omega, show 4 * c + 1 + 1 = 4 * c + 2 by omega, show 4 * c + 2 + 1 = 4 * c + 3 by omega, e3, e2, e1, e0, Nat.add_zero]
theorem span_row {L : List (List Pt)} {rl c w : Int} (hv : vRings L = true) (hr : isRl rl = true) (hc : 0 ≤ c ∧ c ≤ 11) (hw : 0 ≤ w ∧ w ≤ 11) {i : Nat} (hi : i < 4) : spanN (spV L rl (4 * w + i)) c = sumN (fun a => ins1 L rl (smp c a) (smp w i)) 4 := by
  have hl := spV_len L rl (4 * w + i)
  rw [spanN, okS_all, decide_eq_true (by omega), decide_eq_true hc]
  show ovls _ _ = _
  rw [spV_yes hv hr (by omega), ovls_run]
  obtain ⟨d, rfl⟩ : ∃ d : Nat, c = d := ⟨c.toNat, by omega⟩
  rw [cntW_col _ d (by omega)]
  simp only [sumN]
  have e : ∀ a : Nat, a < 4 → (if insC (crS L (2 + 4 * (4 * w + (i : Int)))) rl (4 * d + a) = true then (1 : Int) else 0) = ins1 L rl (smp d a) (smp w i) := fun a ha => by
    rw [insC_crS (by omega), ins1, smp, smp]
    rw [show ((4 * d + a : Nat) : Int) = 4 * (d : Int) + a by omega]
  rw [e 0 (by omega), e 1 (by omega), e 2 (by omega), e 3 (by omega)]
end Go.Proofs.Ytcejoknapbhloaa
