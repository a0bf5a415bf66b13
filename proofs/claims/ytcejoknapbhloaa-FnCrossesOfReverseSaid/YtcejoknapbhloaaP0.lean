/- Contracts of functions of the program vectorraster, each proved for all states that fit its description. No conditions. -/
import Derived.Test.YtcejoknapbhloaaPG
import Derived.Test.YtcejoknapbhloaaPF
import Derived.Test.YtcejoknapbhloaaP3
import Derived.Test.YtcejoknapbhloaaPJ
import Derived.Test.YtcejoknapbhloaaP6KR
set_option linter.unusedSimpArgs false
set_option linter.unusedVariables false
section
set_option maxRecDepth 100000
set_option linter.unusedSimpArgs false
set_option linter.unusedVariables false
namespace Go.Proofs.Ytcejoknapbhloaa
open Go Go.VE
def hiP (y : Int) (p : Pt) : Int := if y < p.y then 1 else 0
theorem stepE_hi (e : Edge) (y : Int) : stepE e y = hiP y e.q - hiP y e.p := by
  unfold stepE hiP
  split <;> split <;> (try split) <;> (try split) <;> omega
theorem sum_zip (f : Pt → Int) : ∀ (a b : List Pt), a.length = b.length → ((a.zip b).map fun p => f p.2 - f p.1).sum = (b.map f).sum - (a.map f).sum
  | [], [], _ => rfl
  | a :: r, b :: q, h => by
    have ih := sum_zip f r q (by simpa using h)
    simp only [List.zip_cons_cons, List.map_cons, List.sum_cons, ih]; omega
  | [], _ :: _, h => by simp at h
  | _ :: _, [], h => by simp at h
theorem ring_tel (y : Int) (r : List Pt) : ((ringE r).map fun e => stepE e y).sum = 0 := by
  have e : ((ringE r).map fun e => stepE e y) = ((r.zip (r.drop 1 ++ r.take 1)).map fun p => hiP y p.2 - hiP y p.1) := by
    simp only [ringE, List.map_map]
    exact List.map_congr_left fun p _ => stepE_hi _ _
  rw [e, sum_zip _ _ _ (by simp; omega)]
  cases r with
  | nil => rfl
  | cons a r => simp only [List.drop_succ_cons, List.drop_zero, List.take_succ_cons, List.take_zero, List.map_append, List.sum_append, List.map_cons, List.map_nil, List.sum_cons, List.sum_nil]; omega
theorem edges_tel (y : Int) : ∀ L : List (List Pt), ((edgesOf L).map fun e => stepE e y).sum = 0
  | [] => rfl
  | r :: L => by
    have ih := edges_tel y L
    have e : edgesOf (r :: L) = ringE r ++ edgesOf L := rfl
    rw [e, List.map_append, List.sum_append, ring_tel, ih]; rfl
theorem sum_all0 {l : List Int} (h : ∀ x ∈ l, x = 0) : l.sum = 0 := by
  induction l with
  | nil => rfl
  | cons a l ih => rw [List.sum_cons, h a (by simp), ih fun x hx => h x (by simp [hx])]; rfl
theorem wind_zero {L : List (List Pt)} {x y : Int} (h : ∀ e ∈ edgesOf L, con e x y = 0) : wind L x y = 0 := by
  refine sum_all0 fun n hn => ?_
  obtain ⟨e, he, rfl⟩ := List.mem_map.1 hn
  exact h e he
theorem wind_right {L : List (List Pt)} {x y : Int} (h : ∀ e ∈ edgesOf L, stepE e y ≠ 0 → leftE e x y = true) : wind L x y = 0 := by
  rw [← edges_tel y L]
  show ((edgesOf L).map fun e => con e x y).sum = _
  congr 1
  refine List.map_congr_left fun e he => ?_
  by_cases hs : stepE e y = 0
  · rw [con_0 hs, hs]
  · exact con_yes (h e he hs)
theorem mul_pos_nn {a b : Int} (h : 0 ≤ a) (h2 : 0 ≤ b) : 0 ≤ a * b := Int.mul_nonneg h h2
theorem left_no {e : Edge} {x y : Int} (hs : stepE e y ≠ 0) (h1 : x < e.p.x) (h2 : x < e.q.x) : leftE e x y = false := by
  obtain ⟨⟨px, py⟩, ⟨qx, qy⟩⟩ := e
  dsimp only at *
  have hb : (py ≤ y ∧ y < qy) ∨ (qy ≤ y ∧ y < py) := by
    unfold stepE at hs; dsimp only at hs; split at hs
    · exact .inl ‹_›
    · split at hs
      · exact .inr ‹_›
      · exact absurd rfl hs
  have e1 : (qx - px) * (y - py) - (x - px) * (qy - py) = (qx - x) * (y - py) + (px - x) * (qy - y) := by
    rw [show qx - px = (qx - x) - (px - x) by omega, show x - px = -(px - x) by omega, show qy - py = (qy - y) + (y - py) by omega, Int.sub_mul, Int.neg_mul, Int.mul_add]; omega
  simp only [leftE, decide_eq_false_iff_not]
  rw [e1]
  rcases hb with ⟨g1, g2⟩ | ⟨g1, g2⟩
  · rw [if_neg (by omega)]
    have m1 := Int.mul_nonneg (show 0 ≤ qx - x by omega) (show 0 ≤ y - py by omega)
    have m2 := Int.mul_pos (show 0 < px - x by omega) (show 0 < qy - y by omega)
    omega
  · rw [if_pos (by omega)]
    have m1 := Int.mul_pos (show 0 < qx - x by omega) (show 0 < py - y by omega)
    have m2 := Int.mul_nonneg (show 0 ≤ px - x by omega) (show 0 ≤ y - qy by omega)
    rw [show y - py = -(py - y) by omega, show qy - y = -(y - qy) by omega, Int.mul_neg, Int.mul_neg]; omega
theorem left_yes {e : Edge} {x y : Int} (hs : stepE e y ≠ 0) (h1 : e.p.x ≤ x) (h2 : e.q.x ≤ x) : leftE e x y = true := by
  obtain ⟨⟨px, py⟩, ⟨qx, qy⟩⟩ := e
  dsimp only at *
  have hb : (py ≤ y ∧ y < qy) ∨ (qy ≤ y ∧ y < py) := by
    unfold stepE at hs; dsimp only at hs; split at hs
    · exact .inl ‹_›
    · split at hs
      · exact .inr ‹_›
      · exact absurd rfl hs
  have e1 : (qx - px) * (y - py) - (x - px) * (qy - py) = -((x - qx) * (y - py)) - (x - px) * (qy - y) := by
    rw [show qx - px = (x - px) - (x - qx) by omega, show qy - py = (qy - y) + (y - py) by omega, Int.sub_mul, Int.mul_add]; omega
  simp only [leftE, decide_eq_true_eq]
  rw [e1]
  rcases hb with ⟨g1, g2⟩ | ⟨g1, g2⟩
  · rw [if_neg (by omega)]
    have m1 := Int.mul_nonneg (show 0 ≤ x - qx by omega) (show 0 ≤ y - py by omega)
    have m2 := Int.mul_nonneg (show 0 ≤ x - px by omega) (show 0 ≤ qy - y by omega)
    omega
  · rw [if_pos (by omega)]
    have m1 := Int.mul_nonneg (show 0 ≤ x - qx by omega) (show 0 ≤ py - y by omega)
    have m2 := Int.mul_nonneg (show 0 ≤ x - px by omega) (show 0 ≤ y - qy by omega)
    rw [show y - py = -(py - y) by omega, show qy - y = -(y - qy) by omega, Int.mul_neg, Int.mul_neg]; omega
theorem edge_ends {L : List (List Pt)} {e : Edge} (h : e ∈ edgesOf L) : e.p ∈ L.flatten ∧ e.q ∈ L.flatten := by
  obtain ⟨r, hr, hm⟩ := List.mem_flatMap.1 h
  simp only [ringE, List.mem_map] at hm
  obtain ⟨⟨a, b⟩, hm, rfl⟩ := hm
  have := List.of_mem_zip hm
  refine ⟨List.mem_flatten.2 ⟨r, hr, this.1⟩, List.mem_flatten.2 ⟨r, hr, ?_⟩⟩
  rcases List.mem_append.1 this.2 with h2 | h2
  · exact List.mem_of_mem_drop h2
  · exact List.mem_of_mem_take h2
/-- All points of polygons lie in a box. -/
def inBx (L : List (List Pt)) (b : Bx) : Prop := ∀ p ∈ L.flatten, (b.l ≤ p.x ∧ p.x ≤ b.r) ∧ b.t ≤ p.y ∧ p.y ≤ b.b
theorem wind_out {L : List (List Pt)} {b : Bx} {x y : Int} (h : inBx L b) (ho : x < b.l ∨ b.r ≤ x ∨ y < b.t ∨ b.b ≤ y) : wind L x y = 0 := by
  have hst : ∀ e ∈ edgesOf L, stepE e y ≠ 0 → b.t ≤ y ∧ y < b.b := fun e he hs => by
    obtain ⟨h1, h2⟩ := edge_ends he
    have g1 := h _ h1
    have g2 := h _ h2
    unfold stepE at hs; split at hs
    · omega
    · split at hs
      · omega
      · exact absurd rfl hs
  by_cases hr : b.r ≤ x
  · refine wind_right fun e he hs => ?_
    obtain ⟨h1, h2⟩ := edge_ends he
    exact left_yes hs (by have := h _ h1; omega) (by have := h _ h2; omega)
  · refine wind_zero fun e he => ?_
    by_cases hs : stepE e y = 0
    · exact con_0 hs
    · have g := hst e he hs
      obtain ⟨h1, h2⟩ := edge_ends he
      exact con_no (left_no hs (by have := h _ h1; omega) (by have := h _ h2; omega))
theorem insN_0 (rl : Int) : insN 0 rl = false := by unfold insN; grind
theorem sumN_0 : ∀ {f : Nat → Int} (n : Nat), (∀ j, j < n → f j = 0) → sumN f n = 0
  | f, 0, _ => rfl
  | f, n + 1, h => by rw [sumN, sumN_0 n fun j hj => h j (by omega), h n (by omega)]; rfl
/-- Outside of the pixels of a box nothing is covered. -/
theorem cov_out {L : List (List Pt)} {b : Bx} {rl c w : Int} (h : inBx L b) (ho : c < b.l / 16 ∨ b.r / 16 + 1 ≤ c ∨ w < b.t / 16 ∨ b.b / 16 + 1 ≤ w) : cov L rl c w = 0 := by
  unfold cov
  refine sumN_0 4 fun a ha => sumN_0 4 fun k hk => ?_
  unfold ins1
  rw [wind_out h (by unfold smp; omega), insN_0]; rfl
end Go.Proofs.Ytcejoknapbhloaa
end
section
set_option maxRecDepth 100000
set_option linter.unusedSimpArgs false
set_option linter.unusedVariables false
namespace Go.Proofs.Ytcejoknapbhloaa
open Go Go.VE
def leC (x y : Cross) : Bool := !bf y x
theorem leC_iff {x y : Cross} : leC x y = true ↔ x.a < y.a ∨ x.a = y.a ∧ x.s ≤ y.s := by
  simp only [leC, bf, Bool.not_eq_true', decide_eq_false_iff_not]; omega
theorem leC_tr (x y z : Cross) (h1 : leC x y = true) (h2 : leC y z = true) : leC x z = true := by
  rw [leC_iff] at *; omega
theorem leC_tot (x y : Cross) : (leC x y || leC y x) = true := by
  rw [Bool.or_eq_true, leC_iff, leC_iff]; omega
def srt (l : List Cross) : List Cross := l.mergeSort leC
theorem srt_perm (l : List Cross) : (srt l).Perm l := List.mergeSort_perm l leC
theorem srt_ord (l : List Cross) : (srt l).Pairwise fun x y => leC x y = true := List.pairwise_mergeSort leC_tr leC_tot l
theorem srt_uniq {a b : List Cross} (hp : a.Perm b) (hs : a.Pairwise fun x y => leC x y = true) : a = srt b := by
  refine List.Perm.eq_of_pairwise (le := fun x y => leC x y = true) ?_ hs (srt_ord b) (hp.trans (srt_perm b).symm)
  intro x y _ _ h1 h2
  rw [leC_iff] at h1 h2
  obtain ⟨xa, xs⟩ := x
  obtain ⟨ya, ys⟩ := y
  dsimp only at h1 h2
  rw [show xa = ya by omega, show xs = ys by omega]
theorem srt_eq {a b : List Cross} (hp : a.Perm b) : srt a = srt b := srt_uniq ((srt_perm a).trans hp) (srt_ord a)
theorem srt_len (l : List Cross) : (srt l).length = l.length := (srt_perm l).length_eq
theorem srt_nil : srt [] = [] := by simp [srt]
/-- A crossing that is put at its place. -/
theorem ins_srt {l : List Cross} {c : Cross} {k : Nat} (hs : l.Pairwise fun x y => leC x y = true) (hk : k ≤ l.length) (h1 : ∀ x ∈ l.drop k, bf c x = true) (h2 : ∀ y, l[k - 1]? = some y → 0 < k → bf c y = false) : l.take k ++ c :: l.drop k = srt (l ++ [c]) := by
  refine srt_uniq ?_ ?_
  · have : (l.take k ++ c :: l.drop k).Perm (c :: (l.take k ++ l.drop k)) := List.perm_middle
    rw [List.take_append_drop] at this
    exact this.trans (List.perm_append_comm (l₁ := [c]) (l₂ := l))
  · have hs2 := hs
    rw [← List.take_append_drop k l, List.pairwise_append] at hs2
    rw [List.pairwise_append]
    have hlt : ∀ x ∈ l.take k, leC x c = true := by
      intro x hx
      by_cases h0 : 0 < k
      · have hl : k - 1 < l.length := by omega
        have hy : bf c l[k - 1] = false := h2 _ (List.getElem?_eq_getElem hl) h0
        have hyc : leC l[k - 1] c = true := by rw [leC, hy]; rfl
        obtain ⟨i, hi⟩ := List.getElem?_of_mem hx
        have hik : i < k := by
          have := (List.getElem?_eq_some_iff.1 hi).1
          rw [List.length_take] at this; omega
        rw [List.getElem?_take_of_lt hik] at hi
        have hil := (List.getElem?_eq_some_iff.1 hi).1
        have hie : l[i] = x := (List.getElem?_eq_some_iff.1 hi).2
        by_cases e : i = k - 1
        · subst e; rw [← hie]; exact hyc
        · have := List.pairwise_iff_getElem.1 hs i (k - 1) hil hl (by omega)
          rw [hie] at this
          exact leC_tr _ _ _ this hyc
      · rw [show k = 0 by omega] at hx; simp at hx
    have hgt : ∀ x ∈ l.drop k, leC c x = true := by
      intro x hx
      have := h1 x hx
      simp only [bf, decide_eq_true_eq] at this
      rw [leC_iff]; omega
    refine ⟨hs2.1, List.pairwise_cons.2 ⟨hgt, hs2.2.1⟩, fun x hx y hy => ?_⟩
    rcases List.mem_cons.1 hy with rfl | hy
    · exact hlt x hx
    · exact hs2.2.2 x hx y hy
def firstS (e : Edge) (y : Int) : Int := ((List.range 48).findIdx fun n : Nat => leftE e (2 + 4 * (n : Int)) y : Nat)
theorem firstS_bd (e : Edge) (y : Int) : 0 ≤ firstS e y ∧ firstS e y ≤ 48 := by
  have := List.findIdx_le_length (p := fun n : Nat => leftE e (2 + 4 * (n : Int)) y) (xs := List.range 48)
  rw [List.length_range] at this
  unfold firstS; omega
theorem firstS_of {e : Edge} {y n : Int} (h0 : 0 ≤ n) (h1 : n ≤ 48) (hall : ∀ m : Nat, (m : Int) < n → leftE e (2 + 4 * (m : Int)) y = false) (hd : n = 48 ∨ leftE e (2 + 4 * n) y = true) : firstS e y = n := by
  have hb := firstS_bd e y
  have hge : n ≤ firstS e y := by
    unfold firstS
    rcases Int.lt_or_le ((((List.range 48).findIdx fun n : Nat => leftE e (2 + 4 * (n : Int)) y : Nat) : Nat) : Int) n with h | h
    · exfalso
      have hlt : (List.range 48).findIdx (fun n : Nat => leftE e (2 + 4 * (n : Int)) y) < (List.range 48).length := by rw [List.length_range]; omega
      have := List.findIdx_getElem (p := fun n : Nat => leftE e (2 + 4 * (n : Int)) y) (w := hlt)
      rw [List.getElem_range] at this
      rw [hall _ h] at this
      cases this
    · exact h
  rcases hd with hd | hd
  · omega
  · rcases Int.lt_or_le n (firstS e y) with h | h
    · exfalso
      unfold firstS at h
      have hlt : n.toNat < (List.range 48).findIdx (fun n : Nat => leftE e (2 + 4 * (n : Int)) y) := by omega
      have := List.not_of_lt_findIdx hlt
      rw [List.getElem_range, Int.toNat_of_nonneg h0] at this
      rw [hd] at this
      cases this
    · omega
theorem leftE_mono {e : Edge} {x x' y : Int} (hs : stepE e y ≠ 0) (h : leftE e x y = true) (hx : x ≤ x') : leftE e x' y = true := by
  obtain ⟨⟨px, py⟩, ⟨qx, qy⟩⟩ := e
  have hb : (py ≤ y ∧ y < qy) ∨ (qy ≤ y ∧ y < py) := by
    unfold stepE at hs; dsimp only at hs; split at hs
    · exact .inl ‹_›
    · split at hs
      · exact .inr ‹_›
      · exact absurd rfl hs
  simp only [leftE, decide_eq_true_eq] at *
  have e1 : (x' - px) * (qy - py) = (x - px) * (qy - py) + (x' - x) * (qy - py) := by rw [← Int.add_mul]; congr 1; omega
  rw [e1]
  rcases hb with ⟨g1, g2⟩ | ⟨g1, g2⟩
  · rw [if_neg (by omega)] at *
    have := Int.mul_nonneg (show 0 ≤ x' - x by omega) (show 0 ≤ qy - py by omega)
    omega
  · rw [if_pos (by omega)] at *
    have := Int.mul_nonneg (show 0 ≤ x' - x by omega) (show 0 ≤ py - qy by omega)
    have e2 : (x' - x) * (qy - py) = -((x' - x) * (py - qy)) := by rw [← Int.mul_neg]; congr 1; omega
    omega
theorem firstS_le {e : Edge} {y s : Int} (hs : stepE e y ≠ 0) (h0 : 0 ≤ s) (h1 : s < 48) : firstS e y ≤ s ↔ leftE e (2 + 4 * s) y = true := by
  have hb := firstS_bd e y
  constructor
  · intro h
    have hlt : (List.range 48).findIdx (fun n : Nat => leftE e (2 + 4 * (n : Int)) y) < (List.range 48).length := by rw [List.length_range]; unfold firstS at h; omega
    have := List.findIdx_getElem (p := fun n : Nat => leftE e (2 + 4 * (n : Int)) y) (w := hlt)
    rw [List.getElem_range] at this
    refine leftE_mono hs this ?_
    unfold firstS at h; omega
  · intro h
    rcases Int.lt_or_le s (firstS e y) with h2 | h2
    · exfalso
      unfold firstS at h2
      have hlt : s.toNat < (List.range 48).findIdx (fun n : Nat => leftE e (2 + 4 * (n : Int)) y) := by omega
      have := List.not_of_lt_findIdx hlt
      rw [List.getElem_range, Int.toNat_of_nonneg h0] at this
      rw [h] at this
      cases this
    · exact h2
def crOf (es : List Edge) (y : Int) : List Cross := (es.filter fun e => !decide (stepE e y = 0)).map fun e => ⟨firstS e y, stepE e y⟩
theorem crOf_app (a b : List Edge) (y : Int) : crOf (a ++ b) y = crOf a y ++ crOf b y := by simp [crOf]
theorem crOf_yes {e : Edge} {y : Int} (h : ¬ stepE e y = 0) : crOf [e] y = [⟨firstS e y, stepE e y⟩] := by simp [crOf, h]
theorem crOf_no {e : Edge} {y : Int} (h : stepE e y = 0) : crOf [e] y = [] := by simp [crOf, h]
theorem crOf_len (es : List Edge) (y : Int) : (crOf es y).length ≤ es.length := by rw [crOf, List.length_map]; exact List.length_filter_le _ _
theorem crOf_ok (es : List Edge) (y : Int) : ∀ c ∈ crOf es y, (0 ≤ c.a ∧ c.a ≤ 48) ∧ -1 ≤ c.s ∧ c.s ≤ 1 := by
  intro c hc
  obtain ⟨e, _, rfl⟩ := List.mem_map.1 hc
  exact ⟨firstS_bd e y, stepE_bd e y⟩
def crS (L : List (List Pt)) (y : Int) : List Cross := srt (crOf (edgesOf L) y)
theorem crS_len (L : List (List Pt)) (y : Int) : (crS L y).length ≤ (edgesOf L).length := by rw [crS, srt_len]; exact crOf_len _ _
theorem crS_ok (L : List (List Pt)) (y : Int) : ∀ c ∈ crS L y, (0 ≤ c.a ∧ c.a ≤ 48) ∧ -1 ≤ c.s ∧ c.s ≤ 1 := fun c hc => crOf_ok _ _ c ((srt_perm _).mem_iff.1 hc)
def stepsTo (l : List Cross) (s : Int) : Int := ((l.filter fun c => decide (c.a ≤ s)).map (·.s)).sum
theorem steps_perm {a b : List Cross} (h : a.Perm b) (s : Int) : stepsTo a s = stepsTo b s := sum_perm ((h.filter _).map _)
theorem steps_crOf {s : Int} (h0 : 0 ≤ s) (h1 : s < 48) (y : Int) : ∀ es : List Edge, stepsTo (crOf es y) s = windE es (2 + 4 * s) y
  | [] => rfl
  | e :: r => by
    have ih := steps_crOf h0 h1 y r
    have e1 : crOf (e :: r) y = crOf [e] y ++ crOf r y := crOf_app [e] r y
    have e2 : windE (e :: r) (2 + 4 * s) y = con e (2 + 4 * s) y + windE r (2 + 4 * s) y := rfl
    have e3 : stepsTo (crOf [e] y ++ crOf r y) s = stepsTo (crOf [e] y) s + stepsTo (crOf r y) s := by simp [stepsTo]
    rw [e1, e2, e3, ih]
    congr 1
    by_cases h : stepE e y = 0
    · rw [crOf_no h, con_0 h]; rfl
    · rw [crOf_yes h]
      by_cases hl : leftE e (2 + 4 * s) y = true
      · rw [con_yes hl]
        have := (firstS_le h h0 h1).2 hl
        simp [stepsTo, this]
      · have := mt (firstS_le h h0 h1).1 hl
        rw [con_no (by simpa using hl)]
        simp [stepsTo, this]
theorem steps_wind {s : Int} (h0 : 0 ≤ s) (h1 : s < 48) (L : List (List Pt)) (y : Int) : stepsTo (crS L y) s = wind L (2 + 4 * s) y := (steps_perm (srt_perm _) s).trans (steps_crOf h0 h1 y _)
theorem steps_all (y : Int) : ∀ es : List Edge, ((crOf es y).map (·.s)).sum = (es.map fun e => stepE e y).sum
  | [] => rfl
  | e :: r => by
    have ih := steps_all y r
    have e1 : crOf (e :: r) y = crOf [e] y ++ crOf r y := crOf_app [e] r y
    rw [e1, List.map_append, List.sum_append, ih, List.map_cons, List.sum_cons]
    congr 1
    by_cases h : stepE e y = 0
    · rw [crOf_no h, h]; rfl
    · rw [crOf_yes h]; simp
theorem crS_sum0 (L : List (List Pt)) (y : Int) : ((crS L y).map (·.s)).sum = 0 := by
  rw [crS, sum_perm ((srt_perm _).map _), steps_all, edges_tel]
/-- The runs of samples that are inside. -/
def runB (f : Nat → Bool) : Nat → List Span
  | 0 => []
  | n + 1 => if f n = true then (match (runB f n).getLast? with
      | some p => if p.t = (n : Int) then (runB f n).dropLast ++ [⟨p.f, p.t + 1⟩] else runB f n ++ [⟨n, (n : Int) + 1⟩]
      | none => [⟨n, (n : Int) + 1⟩]) else runB f n
theorem runB_no {f : Nat → Bool} {n : Nat} (h : f n = false) : runB f (n + 1) = runB f n := by rw [runB, h]; rfl
theorem runB_ext {f : Nat → Bool} {n : Nat} {o : List Span} {p : Span} (h : f n = true) (ho : runB f n = o ++ [p]) (hp : p.t = (n : Int)) : runB f (n + 1) = o ++ [⟨p.f, p.t + 1⟩] := by
  rw [runB, if_pos h, ho]
  simp [hp]
theorem runB_new {f : Nat → Bool} {n : Nat} (h : f n = true) (hp : ∀ p, (runB f n).getLast? = some p → ¬ p.t = (n : Int)) : runB f (n + 1) = runB f n ++ [⟨n, (n : Int) + 1⟩] := by
  rw [runB, if_pos h]
  cases ho : (runB f n).getLast? with
  | none => rw [List.getLast?_eq_none_iff.1 ho]; rfl
  | some p => simp only [if_neg (hp p ho)]
theorem runB_mono {f : Nat → Bool} : ∀ (n : Nat), (∀ p : Span, p ∈ runB f n → 0 ≤ p.f ∧ p.f < p.t ∧ p.t ≤ n) ∧ (runB f n).Pairwise (fun (p q : Span) => p.t < q.f) ∧ (∀ s : Nat, s < n → ((∃ p : Span, p ∈ runB f n ∧ p.f ≤ s ∧ (s : Int) < p.t) ↔ f s = true)) ∧ (∀ p : Span, (runB f n).getLast? = some p → (p.t = n ↔ 0 < n ∧ f (n - 1) = true))
  | 0 => ⟨(by intro p hp; cases hp), List.Pairwise.nil, (by intro s hs; omega), (by intro p hp; cases hp)⟩
  | n + 1 => by
    obtain ⟨h1, h2, h3, h4⟩ := runB_mono (f := f) n
    cases hf : f n with
    | false =>
      rw [runB_no hf]
      refine ⟨fun p hp => by have := h1 p hp; omega, h2, fun s hs => ?_, fun p hp => ?_⟩
      · by_cases e : s = n
        · subst e
          rw [hf]
          constructor
          · rintro ⟨p, hp, h5, h6⟩
            have := h1 p hp; omega
          · intro h; cases h
        · exact h3 s (by omega)
      · have := h1 p (List.mem_of_getLast? hp)
        simp only [Nat.add_sub_cancel, hf]
        constructor
        · intro h; omega
        · rintro ⟨_, h⟩; cases h
    | true =>
      by_cases hl : ∃ p, (runB f n).getLast? = some p ∧ p.t = (n : Int)
      · obtain ⟨p, hp, ht⟩ := hl
        obtain ⟨o, ho⟩ := List.getLast?_eq_some_iff.1 hp
        rw [runB_ext hf ho ht]
        rw [ho] at h1 h2 h3
        have hp1 := h1 p (by simp)
        rw [List.pairwise_append] at h2
        refine ⟨fun q hq => ?_, ?_, fun s hs => ?_, fun q hq => ?_⟩
        · rcases List.mem_append.1 hq with hq | hq
          · have := h1 q (by simp [hq]); omega
          · rw [List.mem_singleton] at hq; subst hq; dsimp only; omega
        · rw [List.pairwise_append]
          refine ⟨h2.1, by simp, fun a ha b hb => ?_⟩
          rw [List.mem_singleton] at hb
          subst hb
          exact h2.2.2 a ha p (by simp)
        · by_cases e : s = n
          · subst e
            rw [hf]
            exact ⟨fun _ => rfl, fun _ => ⟨⟨p.f, p.t + 1⟩, by simp, by dsimp only; omega, by dsimp only; omega⟩⟩
          · rw [← h3 s (by omega)]
            constructor
            · rintro ⟨q, hq, h5, h6⟩
              rcases List.mem_append.1 hq with hq | hq
              · exact ⟨q, by simp [hq], h5, h6⟩
              · rw [List.mem_singleton] at hq
                subst hq
                exact ⟨p, by simp, h5, by dsimp only at h6; omega⟩
            · rintro ⟨q, hq, h5, h6⟩
              rcases List.mem_append.1 hq with hq | hq
              · exact ⟨q, by simp [hq], h5, h6⟩
              · rw [List.mem_singleton] at hq
                subst hq
                exact ⟨⟨q.f, q.t + 1⟩, by simp, h5, by dsimp only; omega⟩
        · simp only [List.getLast?_append, List.getLast?_singleton, Option.some_or, Option.some.injEq] at hq
          subst hq
          dsimp only
          rw [Nat.add_sub_cancel]
          exact ⟨fun _ => ⟨by omega, hf⟩, fun _ => by omega⟩
      · have hn : ∀ p, (runB f n).getLast? = some p → ¬ p.t = (n : Int) := fun p hp ht => hl ⟨p, hp, ht⟩
        rw [runB_new hf hn]
        refine ⟨fun q hq => ?_, ?_, fun s hs => ?_, fun q hq => ?_⟩
        · rcases List.mem_append.1 hq with hq | hq
          · have := h1 q hq; omega
          · rw [List.mem_singleton] at hq; subst hq; dsimp only; omega
        · rw [List.pairwise_append]
          refine ⟨h2, by simp, fun a ha b hb => ?_⟩
          rw [List.mem_singleton] at hb
          subst hb
          dsimp only
          obtain ⟨i, hi⟩ := List.getElem?_of_mem ha
          have hil := (List.getElem?_eq_some_iff.1 hi).1
          by_cases e : i + 1 = (runB f n).length
          · have hgl : (runB f n).getLast? = some a := by rw [List.getLast?_eq_getElem?, show (runB f n).length - 1 = i by omega]; exact hi
            have h5 := hn a hgl
            have h6 := h1 a ha
            omega
          · have hz : (runB f n)[(runB f n).length - 1]? = some ((runB f n)[(runB f n).length - 1]) := List.getElem?_eq_getElem (by omega)
            have h5 := List.pairwise_iff_getElem.1 h2 i ((runB f n).length - 1) hil (by omega) (by omega)
            rw [(List.getElem?_eq_some_iff.1 hi).2] at h5
            have h6 := h1 _ (List.mem_of_getElem? hz)
            omega
        · by_cases e : s = n
          · subst e
            rw [hf]
            exact ⟨fun _ => rfl, fun _ => ⟨⟨s, (s : Int) + 1⟩, by simp, by dsimp only; omega, by dsimp only; omega⟩⟩
          · rw [← h3 s (by omega)]
            constructor
            · rintro ⟨q, hq, h5, h6⟩
              rcases List.mem_append.1 hq with hq | hq
              · exact ⟨q, hq, h5, h6⟩
              · rw [List.mem_singleton] at hq
                subst hq
                dsimp only at h5 h6; omega
            · rintro ⟨q, hq, h5, h6⟩
              exact ⟨q, by simp [hq], h5, h6⟩
        · simp only [List.getLast?_append, List.getLast?_singleton, Option.some_or, Option.some.injEq] at hq
          subst hq
          dsimp only
          rw [Nat.add_sub_cancel]
          exact ⟨fun _ => ⟨by omega, hf⟩, fun _ => by omega⟩
theorem runB_len {f : Nat → Bool} : ∀ n, 2 * (runB f n).length ≤ n + 1 ∧ (f (n - 1) = false → 2 * (runB f n).length ≤ n)
  | 0 => ⟨by simp [runB], fun _ => by simp [runB]⟩
  | n + 1 => by
    obtain ⟨h1, h2⟩ := runB_len (f := f) n
    cases hf : f n with
    | false => rw [runB_no hf]; exact ⟨by omega, fun _ => by omega⟩
    | true =>
      refine ⟨?_, fun h => by rw [Nat.add_sub_cancel, hf] at h; cases h⟩
      by_cases hl : ∃ p, (runB f n).getLast? = some p ∧ p.t = (n : Int)
      · obtain ⟨p, hp, ht⟩ := hl
        obtain ⟨o, ho⟩ := List.getLast?_eq_some_iff.1 hp
        rw [runB_ext hf ho ht]
        rw [ho] at h1
        simp only [List.length_append, List.length_singleton] at *; omega
      · have hn : ∀ p, (runB f n).getLast? = some p → ¬ p.t = (n : Int) := fun p hp ht => hl ⟨p, hp, ht⟩
        rw [runB_new hf hn, List.length_append, List.length_singleton]
        cases n with
        | zero => simp [runB]
        | succ n =>
          by_cases hf1 : f n = true
          · exfalso
            obtain ⟨g1, g2, g3, g4⟩ := runB_mono (f := f) (n + 1)
            have hm : ∃ p : Span, p ∈ runB f (n + 1) ∧ p.f ≤ n ∧ (n : Int) < p.t := (g3 n (by omega)).2 hf1
            have hne : runB f (n + 1) ≠ [] := by rintro e; rw [e] at hm; obtain ⟨_, h, _⟩ := hm; cases h
            have hz := List.getLast?_eq_some_getLast hne
            exact hn _ hz (((g4 _ hz).2 ⟨by omega, by simpa using hf1⟩))
          · have := h2 (by simpa using hf1)
            omega
def noL (e : Edge) (y : Int) (n : Nat) : Bool := (List.range n).all fun m : Nat => !leftE e (2 + 4 * (m : Int)) y
theorem noL_step {e : Edge} {y n : Int} (h0 : 0 ≤ n) (h : noL e y n.toNat = true) (hn : leftE e (2 + 4 * n) y = false) : noL e y (n + 1).toNat = true := by
  rw [show (n + 1).toNat = n.toNat + 1 by omega, noL, List.range_succ, List.all_append]
  rw [noL] at h
  rw [h]
  simp only [List.all_cons, List.all_nil, Int.toNat_of_nonneg h0, hn]; rfl
theorem firstS_fin {e : Edge} {y n : Int} (h0 : 0 ≤ n) (h1 : n ≤ 48) (h : noL e y n.toNat = true) (hd : n = 48 ∨ leftE e (2 + 4 * n) y = true) : firstS e y = n := by
  refine firstS_of h0 h1 (fun m hm => ?_) hd
  rw [noL, List.all_eq_true] at h
  have := h m (List.mem_range.2 (by omega))
  simpa using this
structure OrdC (l : List Cross) : Prop where
  h : l.Pairwise fun x y => leC x y = true
theorem srt_OrdC (l : List Cross) : OrdC (srt l) := ⟨srt_ord l⟩
def tlB (l : List Cross) (c : Cross) (k : Nat) : Bool := (l.drop k).all fun x => bf c x
theorem tlB_end {l : List Cross} {c : Cross} : tlB l c l.length = true := by simp [tlB]
theorem tlB_step {l : List Cross} {c y : Cross} {k : Int} (h0 : 0 < k) (hy : l[(k - 1).toNat]? = some y) (h : tlB l c k.toNat = true) (hb : bf c y = true) : tlB l c (k - 1).toNat = true := by
  have e2 : l.drop (k - 1).toNat = y :: l.drop k.toNat := by
    have := dropN hy (by omega)
    rwa [show k - 1 + 1 = k by omega] at this
  rw [tlB, e2, List.all_cons, hb]; exact h
theorem place_fin {l : List Cross} {c : Cross} {k : Int} (hs : OrdC l) (hk : 0 ≤ k ∧ k ≤ l.length) (h : tlB l c k.toNat = true) (hd : k = 0 ∨ ∃ y, l[(k - 1).toNat]? = some y ∧ bf c y = false) : l.take k.toNat ++ c :: l.drop k.toNat = srt (l ++ [c]) := by
  refine ins_srt hs.h (by omega) (fun x hx => ?_) fun y hy h0 => ?_
  · rw [tlB, List.all_eq_true] at h; exact h x hx
  · rcases hd with hd | ⟨z, hz, hb⟩
    · omega
    · rw [show k.toNat - 1 = (k - 1).toNat by omega] at hy
      rw [hz] at hy
      cases hy; exact hb
theorem srt_add (X : List Cross) (c : Cross) : srt (srt X ++ [c]) = srt (X ++ [c]) := srt_eq ((srt_perm X).append_right [c])
theorem crOf_1 {A : List Edge} {e : Edge} {y : Int} (h : ¬ stepE e y = 0) : srt (srt (crOf A y) ++ [⟨firstS e y, stepE e y⟩]) = srt (crOf (A ++ [e]) y) := by
  rw [srt_add, crOf_app, crOf_yes h]
theorem crOf_0 {A : List Edge} {e : Edge} {y : Int} (h : stepE e y = 0) : srt (crOf A y) = srt (crOf (A ++ [e]) y) := by
  rw [crOf_app, crOf_no h, List.append_nil]
/-- What is inside at a sample. -/
def insC (C : List Cross) (rl : Int) (s : Nat) : Bool := insN (stepsTo C s) rl
/-- The crossings that are taken, and those that are left. -/
structure Spl (C : List Cross) (a : Int) (rest : List Cross) (n : Int) : Prop where
  ex : ∃ A, C = A ++ rest ∧ (∀ c ∈ A, c.a ≤ a) ∧ n = (A.map (·.s)).sum
structure Spm (C : List Cross) (a : Int) (rest : List Cross) (n : Int) : Prop where
  sp : Spl C a rest n
  gt : ∀ c ∈ rest, a < c.a
theorem Spm.start (C : List Cross) (h : ∀ c ∈ C, 0 ≤ c.a) : Spm C (-1) C 0 := ⟨⟨[], rfl, by simp, rfl⟩, fun c hc => by have := h c hc; omega⟩
theorem Spl.up {C rest : List Cross} {a n : Int} (h : Spl C (a - 1) rest n) : Spl C a rest n := by
  obtain ⟨A, h1, h2, h3⟩ := h.ex
  exact ⟨A, h1, fun c hc => by have := h2 c hc; omega, h3⟩
theorem Spl.take {C rest : List Cross} {a n : Int} {c : Cross} (h : Spl C a rest n) (hc : rest[0]? = some c) (ha : c.a ≤ a) : Spl C a (rest.drop 1) (n + c.s) := by
  obtain ⟨A, h1, h2, h3⟩ := h.ex
  cases rest with
  | nil => cases hc
  | cons x r =>
    cases hc
    refine ⟨A ++ [c], by rw [h1]; simp, fun d hd => ?_, by rw [h3]; simp⟩
    rcases List.mem_append.1 hd with hd | hd
    · exact h2 d hd
    · rw [List.mem_singleton] at hd; rw [hd]; exact ha
theorem Spl.mem {C rest : List Cross} {a n : Int} (h : Spl C a rest n) : ∀ c ∈ rest, c ∈ C := by
  obtain ⟨A, h1, -, -⟩ := h.ex
  intro c hc; rw [h1]; exact List.mem_append_right _ hc
theorem Spl.len {C rest : List Cross} {a n : Int} (h : Spl C a rest n) : rest.length ≤ C.length := by
  obtain ⟨A, h1, -, -⟩ := h.ex
  rw [h1, List.length_append]; omega
theorem sum_bd1 : ∀ {A : List Cross}, (∀ c ∈ A, -1 ≤ c.s ∧ c.s ≤ 1) → -(A.length : Int) ≤ (A.map (·.s)).sum ∧ (A.map (·.s)).sum ≤ A.length
  | [], _ => by simp
  | c :: A, h => by
    have h1 := sum_bd1 (A := A) fun d hd => h d (by simp [hd])
    have h2 := h c (by simp)
    simp only [List.map_cons, List.sum_cons, List.length_cons]; omega
theorem Spl.bd {C rest : List Cross} {a n : Int} (h : Spl C a rest n) (hs : ∀ c ∈ C, -1 ≤ c.s ∧ c.s ≤ 1) : -(C.length : Int) ≤ n ∧ n ≤ C.length := by
  obtain ⟨A, h1, -, h3⟩ := h.ex
  have := sum_bd1 (A := A) fun c hc => hs c (by rw [h1]; exact List.mem_append_left _ hc)
  rw [h3, h1, List.length_append]; omega
theorem Spl.fin {C rest : List Cross} {a n : Int} (hO : OrdC C) (h : Spl C a rest n) (hd : rest = [] ∨ ∃ c, rest[0]? = some c ∧ a < c.a) : Spm C a rest n := by
  refine ⟨h, ?_⟩
  obtain ⟨A, h1, -, -⟩ := h.ex
  have hs := hO.h
  rw [h1, List.pairwise_append] at hs
  rcases hd with rfl | ⟨c, hc, ha⟩
  · intro c hc; cases hc
  · cases rest with
    | nil => cases hc
    | cons x r =>
      cases hc
      intro d hd
      rcases List.mem_cons.1 hd with rfl | hd
      · exact ha
      · have := (List.pairwise_cons.1 hs.2.1).1 d hd
        rw [leC_iff] at this; omega
theorem filter_none' {α : Type} {p : α → Bool} : ∀ {l : List α}, (∀ x ∈ l, p x = false) → l.filter p = []
  | [], _ => rfl
  | x :: l, h => by
    rw [List.filter_cons, h x (by simp)]
    exact filter_none' fun z hz => h z (by simp [hz])
theorem Spm.steps {C rest : List Cross} {a n : Int} (h : Spm C a rest n) : n = stepsTo C a := by
  obtain ⟨A, h1, h2, h3⟩ := h.sp.ex
  have e1 : A.filter (fun c => decide (c.a ≤ a)) = A := List.filter_eq_self.2 fun c hc => decide_eq_true (h2 c hc)
  have e2 : rest.filter (fun c => decide (c.a ≤ a)) = [] := filter_none' fun c hc => decide_eq_false (by have := h.gt c hc; omega)
  rw [stepsTo, h1, List.filter_append, e1, e2, List.append_nil]; exact h3
theorem runB_const {f : Nat → Bool} {a : Nat} {o : List Span} {fr : Int} (h : runB f (a + 1) = o ++ [⟨fr, (a : Int) + 1⟩]) : ∀ d : Nat, (∀ s : Nat, a < s → s ≤ a + d → f s = true) → runB f (a + d + 1) = o ++ [⟨fr, (a : Int) + d + 1⟩]
  | 0, _ => by simpa using h
  | d + 1, hf => by
    have ih := runB_const h d fun s h1 h2 => hf s h1 (by omega)
    have := runB_ext (f := f) (n := a + d + 1) (hf _ (by omega) (by omega)) ih (by dsimp only; omega)
    rw [show a + (d + 1) + 1 = a + d + 1 + 1 by omega, this]
    congr 3
theorem runB_const0 {f : Nat → Bool} (a : Nat) : ∀ d : Nat, (∀ s : Nat, a ≤ s → s < a + d → f s = false) → runB f (a + d) = runB f a
  | 0, _ => rfl
  | d + 1, hf => by
    rw [show a + (d + 1) = a + d + 1 by omega, runB_no (hf _ (by omega) (by omega))]
    exact runB_const0 a d fun s h1 h2 => hf s h1 (by omega)
structure RS (f : Nat → Bool) (a : Int) (o : List Span) (fr : Int) : Prop where
  sg : fr = -1 ∨ 0 ≤ fr ∧ fr ≤ a
  off : fr = -1 → runB f (min (a + 1) 48).toNat = o ∧ (0 ≤ a → a < 48 → f a.toNat = false)
  on : 0 ≤ fr → runB f (min (a + 1) 48).toNat = o ++ [⟨fr, min (a + 1) 48⟩] ∧ 0 ≤ a ∧ (a < 48 → f a.toNat = true)
theorem rs_off {f : Nat → Bool} {a x : Int} {o : List Span} (h : RS f a o (-1)) (ha : -1 ≤ a) (hx : a < x) (hx48 : x ≤ 48) (hb : ∀ s : Nat, a < s → (s : Int) < x → f s = false) : runB f x.toNat = o := by
  have h1 := (h.off rfl).1
  have := runB_const0 (f := f) (a + 1).toNat (x - (a + 1)).toNat fun s h1 h2 => hb s (by omega) (by omega)
  rw [show (a + 1).toNat + (x - (a + 1)).toNat = x.toNat by omega] at this
  rw [this, ← h1, show (min (a + 1) 48).toNat = (a + 1).toNat by omega]
theorem rs_on {f : Nat → Bool} {a x fr : Int} {o : List Span} (h : RS f a o fr) (hf : 0 ≤ fr) (hx : a < x) (hx48 : x ≤ 48) (hb : ∀ s : Nat, a < s → (s : Int) < x → f s = true) : runB f x.toNat = o ++ [⟨fr, x⟩] := by
  obtain ⟨h1, h2, -⟩ := h.on hf
  have e : min (a + 1) 48 = (a.toNat : Int) + 1 := by omega
  rw [e, show ((a.toNat : Int) + 1).toNat = a.toNat + 1 by omega] at h1
  have := runB_const h1 (x - 1 - a).toNat fun s h1 h2 => hb s (by omega) (by omega)
  rw [show a.toNat + (x - 1 - a).toNat + 1 = x.toNat by omega] at this
  rw [this]
  congr 3
  omega
theorem rs_go {f : Nat → Bool} {a x fr : Int} {o : List Span} (h : RS f a o fr) (ha : -1 ≤ a) (hx : a < x) (hx48 : x ≤ 48) (h0 : ∀ s : Nat, a < s → (s : Int) < x → a = -1 → f s = false) (hb : ∀ s : Nat, a < s → (s : Int) < x → 0 ≤ a → f s = f a.toNat) :
    (fr = -1 → x < 48 → f x.toNat = true → RS f x o x) ∧ (fr = -1 → (x < 48 → f x.toNat = false) → RS f x o (-1)) ∧ (0 ≤ fr → (x < 48 → f x.toNat = true) → RS f x o fr) ∧ (0 ≤ fr → (x < 48 → f x.toNat = false) → RS f x (o ++ [⟨fr, x⟩]) (-1)) := by
  have hoff : fr = -1 → ∀ s : Nat, a < s → (s : Int) < x → f s = false := fun hf s h1 h2 => by
    rcases Int.lt_or_le a 0 with g | g
    · exact h0 s h1 h2 (by omega)
    · rw [hb s h1 h2 g]; exact (h.off hf).2 g (by omega)
  have hon : 0 ≤ fr → ∀ s : Nat, a < s → (s : Int) < x → f s = true := fun hf s h1 h2 => by
    obtain ⟨-, g, k⟩ := h.on hf
    rw [hb s h1 h2 g]; exact k (by omega)
  refine ⟨fun hf hlt ht => ?_, fun hf ht => ?_, fun hf ht => ?_, fun hf ht => ?_⟩
  · subst hf
    have e := rs_off h ha hx hx48 (hoff rfl)
    refine ⟨.inr ⟨by omega, Int.le_refl _⟩, fun h => by omega, fun _ => ⟨?_, by omega, fun _ => ht⟩⟩
    have hn : ∀ p, (runB f x.toNat).getLast? = some p → ¬ p.t = (x.toNat : Int) := fun p hp hpt => by
      obtain ⟨g1, g2⟩ := ((runB_mono (f := f) x.toNat).2.2.2 p hp).1 hpt
      rcases Int.lt_or_le a (x - 1) with g | g
      · rw [hoff rfl (x.toNat - 1) (by omega) (by omega)] at g2; cases g2
      · rw [show x.toNat - 1 = a.toNat by omega, (h.off rfl).2 (by omega) (by omega)] at g2; cases g2
    have := runB_new ht hn
    rw [e] at this
    rw [show (min (x + 1) 48).toNat = x.toNat + 1 by omega, this, show ((x.toNat : Nat) : Int) = x by omega, show min (x + 1) 48 = x + 1 by omega]
  · subst hf
    have e := rs_off h ha hx hx48 (hoff rfl)
    refine ⟨.inl rfl, fun _ => ⟨?_, fun _ h2 => ht h2⟩, fun h => by omega⟩
    rcases Int.lt_or_le x 48 with g | g
    · rw [show (min (x + 1) 48).toNat = x.toNat + 1 by omega, runB_no (ht g), e]
    · rw [show (min (x + 1) 48).toNat = x.toNat by omega, e]
  · have e := rs_on h hf hx hx48 (hon hf)
    have ha0 := (h.on hf).2.1
    have hfa : fr ≤ a := by rcases h.sg with g | g; (omega); exact g.2
    refine ⟨.inr ⟨hf, by omega⟩, fun h => by omega, fun _ => ⟨?_, by omega, ht⟩⟩
    rcases Int.lt_or_le x 48 with g | g
    · have := runB_ext (f := f) (n := x.toNat) (ht g) e (by dsimp only; omega)
      rw [show (min (x + 1) 48).toNat = x.toNat + 1 by omega, this, show min (x + 1) 48 = x + 1 by omega]
    · rw [show (min (x + 1) 48).toNat = x.toNat by omega, e, show min (x + 1) 48 = x by omega]
  · have e := rs_on h hf hx hx48 (hon hf)
    refine ⟨.inl rfl, fun _ => ⟨?_, fun _ h2 => ht h2⟩, fun h => by omega⟩
    rcases Int.lt_or_le x 48 with g | g
    · rw [show (min (x + 1) 48).toNat = x.toNat + 1 by omega, runB_no (ht g), e]
    · rw [show (min (x + 1) 48).toNat = x.toNat by omega, e]
structure SpnI (C : List Cross) (rl : Int) (i : Nat) (o : List Span) (fr n : Int) : Prop where
  sum : n = ((C.take i).map (·.s)).sum
  ex : ∃ (a : Int) (j : Nat), (j ≤ i ∧ (j < i → i < C.length)) ∧ (-1 ≤ a ∧ a ≤ 48 ∧ (j = 0 → a = -1) ∧ (a = -1 → j = 0)) ∧ (∀ c ∈ C.take j, c.a ≤ a) ∧ (∀ c ∈ C.drop j, a < c.a) ∧ (∀ c ∈ (C.take i).drop j, ∀ d, C[i]? = some d → c.a = d.a) ∧ RS (insC C rl) a o fr
theorem steps_at {C : List Cross} {j : Nat} {s : Int} (h1 : ∀ c ∈ C.take j, c.a ≤ s) (h2 : ∀ c ∈ C.drop j, s < c.a) : stepsTo C s = ((C.take j).map (·.s)).sum := by
  have e1 : (C.take j).filter (fun c => decide (c.a ≤ s)) = C.take j := List.filter_eq_self.2 fun c hc => decide_eq_true (h1 c hc)
  have e2 : (C.drop j).filter (fun c => decide (c.a ≤ s)) = [] := filter_none' fun c hc => decide_eq_false (by have := h2 c hc; omega)
  rw [stepsTo]
  conv => lhs; rw [← List.take_append_drop j C]
  rw [List.filter_append, e1, e2, List.append_nil]
theorem SpnI.start (C : List Cross) (rl : Int) (h : ∀ c ∈ C, 0 ≤ c.a) : SpnI C rl 0 [] (-1) 0 :=
  ⟨rfl, -1, 0, ⟨Nat.le_refl _, fun h => by omega⟩, ⟨Int.le_refl _, by omega, fun _ => rfl, fun _ => rfl⟩, by simp, fun c hc => by have := h c (by simpa using hc); omega, by simp, ⟨.inl rfl, fun _ => ⟨rfl, fun h => by omega⟩, fun h => by omega⟩⟩
theorem ord_at {C : List Cross} (hO : OrdC C) {i j : Nat} {x y : Cross} (hx : C[i]? = some x) (hy : C[j]? = some y) (h : i ≤ j) : x.a ≤ y.a := by
  obtain ⟨h1, rfl⟩ := List.getElem?_eq_some_iff.1 hx
  obtain ⟨h2, rfl⟩ := List.getElem?_eq_some_iff.1 hy
  by_cases e : i = j
  · subst e; exact Int.le_refl _
  · have := List.pairwise_iff_getElem.1 hO.h i j h1 h2 (by omega)
    rw [leC_iff] at this; omega
theorem take_sum {C : List Cross} {i : Int} {x : Cross} (hx : C[i.toNat]? = some x) (h0 : 0 ≤ i) : ((C.take (i + 1).toNat).map (·.s)).sum = ((C.take i.toNat).map (·.s)).sum + x.s := by
  rw [takeN hx h0]; simp
theorem SpnI.more {C : List Cross} {rl : Int} {i : Int} {o : List Span} {fr n : Int} {x y : Cross} (hO : OrdC C) (h : SpnI C rl i.toNat o fr n) (h0 : 0 ≤ i) (hx : C[i.toNat]? = some x) (hy : C[(i + 1).toNat]? = some y) (hl : ¬ x.a < y.a) : SpnI C rl (i + 1).toNat o fr (n + x.s) := by
  obtain ⟨a, j, ⟨h1, h1'⟩, h2, h3, h4, h5, h6⟩ := h.ex
  have hxy : x.a = y.a := by have := ord_at hO hx hy (by omega); omega
  refine ⟨by rw [take_sum hx h0, h.sum], a, j, ⟨by omega, fun _ => (List.getElem?_eq_some_iff.1 hy).1⟩, h2, h3, h4, fun c hc d hd => ?_, h6⟩
  rw [hy] at hd
  cases hd
  rw [takeN hx h0, List.drop_append_of_le_length (by rw [List.length_take]; have := (List.getElem?_eq_some_iff.1 hx).1; omega)] at hc
  rcases List.mem_append.1 hc with hc | hc
  · rw [h5 c hc x hx, hxy]
  · rw [List.mem_singleton] at hc; rw [hc, hxy]
theorem SpnI.pos {C : List Cross} {rl : Int} {i : Int} {o : List Span} {fr n : Int} {x : Cross} (hO : OrdC C) (hC : ∀ c ∈ C, 0 ≤ c.a ∧ c.a ≤ 48) (h : SpnI C rl i.toNat o fr n) (h0 : 0 ≤ i) (hx : C[i.toNat]? = some x) (hl : (C.length : Int) ≤ i + 1 ∨ ∃ y, C[(i + 1).toNat]? = some y ∧ x.a < y.a) :
    insC C rl x.a.toNat = insN (n + x.s) rl ∧ (∀ o' fr', RS (insC C rl) x.a o' fr' → SpnI C rl (i + 1).toNat o' fr' (n + x.s)) ∧ ∃ a, RS (insC C rl) a o fr ∧ -1 ≤ a ∧ a < x.a ∧ (∀ s : Nat, a < s → (s : Int) < x.a → a = -1 → insC C rl s = false) ∧ (∀ s : Nat, a < s → (s : Int) < x.a → 0 ≤ a → insC C rl s = insC C rl a.toNat) := by
  obtain ⟨a, j, ⟨h1, h1'⟩, h2, h3, h4, h5, h6⟩ := h.ex
  have hx0 := hC x (List.mem_of_getElem? hx)
  have hxl := (List.getElem?_eq_some_iff.1 hx).1
  have htk : ∀ c ∈ C.take (i + 1).toNat, c.a ≤ x.a := fun c hc => by
    obtain ⟨m, hm⟩ := List.getElem?_of_mem hc
    have hml := (List.getElem?_eq_some_iff.1 hm).1
    rw [List.length_take] at hml
    rw [List.getElem?_take_of_lt (by omega)] at hm
    exact ord_at hO hm hx (by omega)
  have hdr : ∀ c ∈ C.drop (i + 1).toNat, x.a < c.a := fun c hc => by
    obtain ⟨m, hm⟩ := List.getElem?_of_mem hc
    rw [List.getElem?_drop] at hm
    rcases hl with hl | ⟨y, hy, hxy⟩
    · have := (List.getElem?_eq_some_iff.1 hm).1; omega
    · have := ord_at hO hy hm (by omega); omega
  have hj : ∀ c ∈ C.drop j, x.a ≤ c.a := fun c hc => by
    obtain ⟨m, hm⟩ := List.getElem?_of_mem hc
    rw [List.getElem?_drop] at hm
    rcases Nat.lt_or_ge (j + m) i.toNat with g | g
    · have : c ∈ (C.take i.toNat).drop j := by
        refine List.mem_of_getElem? (i := m) ?_
        rw [List.getElem?_drop, List.getElem?_take_of_lt g, hm]
      rw [h5 c this x hx]; exact Int.le_refl _
    · exact ord_at hO hx hm g
  have hxj : a < x.a := h4 x (by
    refine List.mem_of_getElem? (i := i.toNat - j) ?_
    rw [List.getElem?_drop, show j + (i.toNat - j) = i.toNat by omega, hx])
  have hb : ∀ s : Int, a ≤ s → s < x.a → stepsTo C s = ((C.take j).map (·.s)).sum := fun s g1 g2 => steps_at (fun c hc => by have := h3 c hc; omega) fun c hc => by have := hj c hc; omega
  have e1 : stepsTo C x.a = n + x.s := by rw [steps_at htk hdr, take_sum hx h0, h.sum]
  have ex : ((x.a.toNat : Nat) : Int) = x.a := by omega
  refine ⟨by rw [insC, ex, e1], fun o' fr' hR => ⟨by rw [take_sum hx h0, h.sum], x.a, (i + 1).toNat, ⟨Nat.le_refl _, fun h => by omega⟩, ⟨by omega, by omega, fun h => by omega, fun h => by omega⟩, htk, hdr, by simp, hR⟩, a, h6, h2.1, hxj, fun s g1 g2 g3 => ?_, fun s g1 g2 g3 => ?_⟩
  · rw [insC, hb s (by omega) g2, h2.2.2.2 g3]; exact insN_0 rl
  · rw [insC, insC, hb s (by omega) g2, hb (a.toNat : Int) (by omega) (by omega)]
theorem SpnI.end_ {C : List Cross} {rl : Int} {i : Int} {o : List Span} {fr n : Int} (h : SpnI C rl i.toNat o fr n) (hi : (C.length : Int) ≤ i) : (fr = -1 ∨ 0 ≤ fr) ∧ (fr < 0 → runB (insC C rl) 48 = o) ∧ (¬ fr < 0 → runB (insC C rl) 48 = o ++ [⟨fr, 48⟩]) := by
  obtain ⟨a, j, ⟨h1, h1'⟩, h2, h3, h4, h5, h6⟩ := h.ex
  have hj : C.length ≤ j := by
    rcases Nat.lt_or_ge j i.toNat with g | g
    · have := h1' g; omega
    · omega
  have hb : ∀ s : Int, a ≤ s → stepsTo C s = ((C.take j).map (·.s)).sum := fun s g1 => steps_at (fun c hc => by have := h3 c hc; omega) fun c hc => by rw [List.drop_eq_nil_of_le hj] at hc; cases hc
  have hsg : fr = -1 ∨ 0 ≤ fr := by rcases h6.sg with g | g; (exact .inl g); exact .inr g.1
  have h48 : a = 48 ∨ a < 48 := by omega
  refine ⟨hsg, fun hf => ?_, fun hf => ?_⟩
  · have hf' : fr = -1 := by omega
    subst hf'
    rcases h48 with rfl | g
    · exact (h6.off rfl).1
    · refine rs_off (x := 48) h6 h2.1 g (Int.le_refl _) fun s g1 g2 => ?_
      rcases Int.lt_or_le a 0 with g0 | g0
      · rw [insC, hb s (by omega), h2.2.2.2 (by omega)]; exact insN_0 rl
      · have := (h6.off rfl).2 g0 g
        rw [insC, hb _ (by omega)] at this
        rw [insC, hb s (by omega)]; exact this
  · have hf0 : 0 ≤ fr := by omega
    rcases h48 with rfl | g
    · exact (h6.on hf0).1
    · refine rs_on (x := 48) h6 hf0 g (Int.le_refl _) fun s g1 g2 => ?_
      obtain ⟨-, g0, k⟩ := h6.on hf0
      have := k g
      rw [insC, hb _ (by omega)] at this
      rw [insC, hb s (by omega)]; exact this
def crV (L : List (List Pt)) (w : Int) : List Cross := if (vRings L && decide (0 ≤ w ∧ w ≤ 47)) = true then crS L (2 + 4 * w) else []
def spV (L : List (List Pt)) (rl w : Int) : List Span := if (vRings L && isRl rl && decide (0 ≤ w ∧ w ≤ 47)) = true then runB (insC (crS L (2 + 4 * w)) rl) 48 else []
theorem crV_yes {L : List (List Pt)} {w : Int} (h : vRings L = true) (hw : 0 ≤ w ∧ w ≤ 47) : crV L w = crS L (2 + 4 * w) := by rw [crV, h, decide_eq_true hw]; rfl
theorem crV_n1 {L : List (List Pt)} {w : Int} (h : vRings L = false) : crV L w = [] := by rw [crV, h]; rfl
theorem crV_n2 {L : List (List Pt)} {w : Int} (h : ¬ (0 ≤ w ∧ w ≤ 47)) : crV L w = [] := by rw [crV, decide_eq_false h, Bool.and_false]; rfl
theorem spV_yes {L : List (List Pt)} {rl w : Int} (h : vRings L = true) (hr : isRl rl = true) (hw : 0 ≤ w ∧ w ≤ 47) : spV L rl w = runB (insC (crS L (2 + 4 * w)) rl) 48 := by rw [spV, h, hr, decide_eq_true hw]; rfl
theorem spV_n1 {L : List (List Pt)} {rl w : Int} (h : vRings L = false) : spV L rl w = [] := by rw [spV, h]; rfl
theorem spV_n2 {L : List (List Pt)} {rl w : Int} (h : isRl rl = false) : spV L rl w = [] := by rw [spV, h, Bool.and_false]; rfl
theorem spV_n3 {L : List (List Pt)} {rl w : Int} (h : ¬ (0 ≤ w ∧ w ≤ 47)) : spV L rl w = [] := by rw [spV, decide_eq_false h, Bool.and_false]; rfl
theorem crS_200 {L : List (List Pt)} (h : vRings L = true) (y : Int) : (crS L y).length ≤ 200 := Nat.le_trans (crS_len L y) (edges_len h)
theorem con_left {e : Edge} {x y : Int} (hs : ¬ stepE e y = 0) (h : con e x y = 0) : leftE e x y = false := by
  cases hl : leftE e x y with
  | false => rfl
  | true => rw [con_yes hl] at h; exact absurd h hs
theorem con_left2 {e : Edge} {x y : Int} (h : ¬ con e x y = 0) : leftE e x y = true := by
  cases hl : leftE e x y with
  | false => rw [con_no hl] at h; exact absurd rfl h
  | true => rfl
end Go.Proofs.Ytcejoknapbhloaa
end
