/- Contracts of functions of the program vectorraster, each proved for all states that fit its description. No conditions. -/
import Derived.Test.YtcejoknapbhloaaGreatPG
import Derived.Test.YtcejoknapbhloaaGreatPF
set_option linter.unusedSimpArgs false
set_option linter.unusedVariables false
section
set_option maxRecDepth 100000
set_option linter.unusedSimpArgs false
set_option linter.unusedVariables false
namespace Go.Proofs.YtcejoknapbhloaaGreat
open Go Go.VE
def hiP (y : Int) (p : Pt) : Int := if y < p.y then 1 else 0
theorem stepE_hi (e : Edge) (y : Int) : stepE e y = hiP y e.q - hiP y e.p := by
  unfold stepE hiP
  split <;> split <;> (try split) <;> (try split) <;> omega
theorem sum_zip (f : Pt → Int) : ∀ (a b : List Pt), a.length = b.length → ((a.zip b).map fun p => f p.2 - f p.1).sum = (b.map f).sum - (a.map f).sum
  | [], [], _ => rfl
  | a :: r, b :: q, h => by
    have ih := sum_zip f r q (by simpa using h)
    simp only [List.zip_cons_cons, List.map_cons, List.sum_cons, ih]; omega
  | [], _ :: _, h => by simp at h
  | _ :: _, [], h => by simp at h
theorem ring_tel (y : Int) (r : List Pt) : ((ringE r).map fun e => stepE e y).sum = 0 := by
  have e : ((ringE r).map fun e => stepE e y) = ((r.zip (r.drop 1 ++ r.take 1)).map fun p => hiP y p.2 - hiP y p.1) := by
    simp only [ringE, List.map_map]
    exact List.map_congr_left fun p _ => stepE_hi _ _
  rw [e, sum_zip _ _ _ (by simp; omega)]
  cases r with
  | nil => rfl
  | cons a r => simp only [List.drop_succ_cons, List.drop_zero, List.take_succ_cons, List.take_zero, List.map_append, List.sum_append, List.map_cons, List.map_nil, List.sum_cons, List.sum_nil]; omega
theorem edges_tel (y : Int) : ∀ L : List (List Pt), ((edgesOf L).map fun e => stepE e y).sum = 0
  | [] => rfl
  | r :: L => by
    have ih := edges_tel y L
    have e : edgesOf (r :: L) = ringE r ++ edgesOf L := rfl
    rw [e, List.map_append, List.sum_append, ring_tel, ih]; rfl
theorem sum_all0 {l : List Int} (h : ∀ x ∈ l, x = 0) : l.sum = 0 := by
  induction l with
  | nil => rfl
  | cons a l ih => rw [List.sum_cons, h a (by simp), ih fun x hx => h x (by simp [hx])]; rfl
theorem wind_zero {L : List (List Pt)} {x y : Int} (h : ∀ e ∈ edgesOf L, con e x y = 0) : wind L x y = 0 := by
  refine sum_all0 fun n hn => ?_
  obtain ⟨e, he, rfl⟩ := List.mem_map.1 hn
  exact h e he
theorem wind_right {L : List (List Pt)} {x y : Int} (h : ∀ e ∈ edgesOf L, stepE e y ≠ 0 → leftE e x y = true) : wind L x y = 0 := by
  rw [← edges_tel y L]
  show ((edgesOf L).map fun e => con e x y).sum = _
  congr 1
  refine List.map_congr_left fun e he => ?_
  by_cases hs : stepE e y = 0
  · rw [con_0 hs, hs]
  · exact con_yes (h e he hs)
theorem mul_pos_nn {a b : Int} (h : 0 ≤ a) (h2 : 0 ≤ b) : 0 ≤ a * b := Int.mul_nonneg h h2
theorem left_no {e : Edge} {x y : Int} (hs : stepE e y ≠ 0) (h1 : x < e.p.x) (h2 : x < e.q.x) : leftE e x y = false := by
  obtain ⟨⟨px, py⟩, ⟨qx, qy⟩⟩ := e
  dsimp only at *
  have hb : (py ≤ y ∧ y < qy) ∨ (qy ≤ y ∧ y < py) := by
    unfold stepE at hs; dsimp only at hs; split at hs
    · exact .inl ‹_›
    · split at hs
      · exact .inr ‹_›
      · exact absurd rfl hs
  have e1 : (qx - px) * (y - py) - (x - px) * (qy - py) = (qx - x) * (y - py) + (px - x) * (qy - y) := by
    rw [show qx - px = (qx - x) - (px - x) by omega, show x - px = -(px - x) by omega, show qy - py = (qy - y) + (y - py) by omega, Int.sub_mul, Int.neg_mul, Int.mul_add]; omega
  simp only [leftE, decide_eq_false_iff_not]
  rw [e1]
  rcases hb with ⟨g1, g2⟩ | ⟨g1, g2⟩
  · rw [if_neg (by omega)]
    have m1 := Int.mul_nonneg (show 0 ≤ qx - x by omega) (show 0 ≤ y - py by omega)
    have m2 := Int.mul_pos (show 0 < px - x by omega) (show 0 < qy - y by omega)
    omega
  · rw [if_pos (by omega)]
    have m1 := Int.mul_pos (show 0 < qx - x by omega) (show 0 < py - y by omega)
    have m2 := Int.mul_nonneg (show 0 ≤ px - x by omega) (show 0 ≤ y - qy by omega)
    rw [show y - py = -(py - y) by omega, show qy - y = -(y - qy) by omega, Int.mul_neg, Int.mul_neg]; omega
theorem left_yes {e : Edge} {x y : Int} (hs : stepE e y ≠ 0) (h1 : e.p.x ≤ x) (h2 : e.q.x ≤ x) : leftE e x y = true := by
  obtain ⟨⟨px, py⟩, ⟨qx, qy⟩⟩ := e
  dsimp only at *
  have hb : (py ≤ y ∧ y < qy) ∨ (qy ≤ y ∧ y < py) := by
    unfold stepE at hs; dsimp only at hs; split at hs
    · exact .inl ‹_›
    · split at hs
      · exact .inr ‹_›
      · exact absurd rfl hs
  have e1 : (qx - px) * (y - py) - (x - px) * (qy - py) = -((x - qx) * (y - py)) - (x - px) * (qy - y) := by
    rw [show qx - px = (x - px) - (x - qx) by omega, show qy - py = (qy - y) + (y - py) by omega, Int.sub_mul, Int.mul_add]; omega
  simp only [leftE, decide_eq_true_eq]
  rw [e1]
  rcases hb with ⟨g1, g2⟩ | ⟨g1, g2⟩
  · rw [if_neg (by omega)]
    have m1 := Int.mul_nonneg (show 0 ≤ x - qx by omega) (show 0 ≤ y - py by omega)
    have m2 := Int.mul_nonneg (show 0 ≤ x - px by omega) (show 0 ≤ qy - y by omega)
    omega
  · rw [if_pos (by omega)]
    have m1 := Int.mul_nonneg (show 0 ≤ x - qx by omega) (show 0 ≤ py - y by omega)
    have m2 := Int.mul_nonneg (show 0 ≤ x - px by omega) (show 0 ≤ y - qy by omega)
    rw [show y - py = -(py - y) by omega, show qy - y = -(y - qy) by omega, Int.mul_neg, Int.mul_neg]; omega
theorem edge_ends {L : List (List Pt)} {e : Edge} (h : e ∈ edgesOf L) : e.p ∈ L.flatten ∧ e.q ∈ L.flatten := by
  obtain ⟨r, hr, hm⟩ := List.mem_flatMap.1 h
  simp only [ringE, List.mem_map] at hm
  obtain ⟨⟨a, b⟩, hm, rfl⟩ := hm
  have := List.of_mem_zip hm
  refine ⟨List.mem_flatten.2 ⟨r, hr, this.1⟩, List.mem_flatten.2 ⟨r, hr, ?_⟩⟩
  rcases List.mem_append.1 this.2 with h2 | h2
  · exact List.mem_of_mem_drop h2
  · exact List.mem_of_mem_take h2
/-- All points of polygons lie in a box. -/
def inBx (L : List (List Pt)) (b : Bx) : Prop := ∀ p ∈ L.flatten, (b.l ≤ p.x ∧ p.x ≤ b.r) ∧ b.t ≤ p.y ∧ p.y ≤ b.b
theorem wind_out {L : List (List Pt)} {b : Bx} {x y : Int} (h : inBx L b) (ho : x < b.l ∨ b.r ≤ x ∨ y < b.t ∨ b.b ≤ y) : wind L x y = 0 := by
  have hst : ∀ e ∈ edgesOf L, stepE e y ≠ 0 → b.t ≤ y ∧ y < b.b := fun e he hs => by
    obtain ⟨h1, h2⟩ := edge_ends he
    have g1 := h _ h1
    have g2 := h _ h2
    unfold stepE at hs; split at hs
    · omega
    · split at hs
      · omega
      · exact absurd rfl hs
  by_cases hr : b.r ≤ x
  · refine wind_right fun e he hs => ?_
    obtain ⟨h1, h2⟩ := edge_ends he
    exact left_yes hs (by have := h _ h1; omega) (by have := h _ h2; omega)
  · refine wind_zero fun e he => ?_
    by_cases hs : stepE e y = 0
    · exact con_0 hs
    · have g := hst e he hs
      obtain ⟨h1, h2⟩ := edge_ends he
      exact con_no (left_no hs (by have := h _ h1; omega) (by have := h _ h2; omega))
theorem insN_0 (rl : Int) : insN 0 rl = false := by unfold insN; grind
theorem sumN_0 : ∀ {f : Nat → Int} (n : Nat), (∀ j, j < n → f j = 0) → sumN f n = 0
  | f, 0, _ => rfl
  | f, n + 1, h => by rw [sumN, sumN_0 n fun j hj => h j (by omega), h n (by omega)]; rfl
/-- Outside of the pixels of a box nothing is covered. -/
theorem cov_out {L : List (List Pt)} {b : Bx} {rl c w : Int} (h : inBx L b) (ho : c < b.l / 16 ∨ b.r / 16 + 1 ≤ c ∨ w < b.t / 16 ∨ b.b / 16 + 1 ≤ w) : cov L rl c w = 0 := by
  unfold cov
  refine sumN_0 4 fun a ha => sumN_0 4 fun k hk => ?_
  unfold ins1
  rw [wind_out h (by unfold smp; omega), insN_0]; rfl
end Go.Proofs.YtcejoknapbhloaaGreat
end
