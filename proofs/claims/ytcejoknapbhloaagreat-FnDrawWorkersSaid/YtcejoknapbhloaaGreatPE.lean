/- Contracts of functions of the program vectorraster, each proved for all states that fit its description. No conditions. -/
import Derived.Test.YtcejoknapbhloaaGreatPD
import Derived.Test.YtcejoknapbhloaaGreatPC
set_option linter.unusedSimpArgs false
set_option linter.unusedVariables false
set_option maxRecDepth 100000
namespace Go.Proofs.YtcejoknapbhloaaGreat
open Go Go.VE
structure okLL (L : List (List Pt)) : Prop where
  all : ∀ r ∈ L, okL r
theorem okLL.nil : okLL [] := ⟨by intro r hr; cases hr⟩
theorem okLL.snoc {L : List (List Pt)} {r : List Pt} (h : okLL L) (hr : okL r) : okLL (L ++ [r]) := ⟨fun q hq => (List.mem_append.1 hq).elim (h.all q) (fun e => by rw [List.mem_singleton] at e; exact e ▸ hr)⟩
theorem rings_ok {p : List Verb} (h : vPath p = true) : okLL (ringsOf p) ∧ (ringsOf p).length ≤ 31 ∧ ∀ r ∈ ringsOf p, r.length ≤ 241 := by
  have h30 := vPath_len h
  have := ringInv_at h p.length (Nat.le_refl _)
  rw [List.take_length] at this
  obtain ⟨h1, h2, h3, h4, h5⟩ := this
  unfold ringsOf
  split
  · exact ⟨⟨fun r hr => (h5 r hr).1⟩, by omega, fun r hr => by have := (h5 r hr).2.2; omega⟩
  · refine ⟨okLL.snoc ⟨fun r hr => (h5 r hr).1⟩ h1, by rw [List.length_append, List.length_singleton]; omega, fun r hr => ?_⟩
    rcases List.mem_append.1 hr with hr | hr
    · have := (h5 r hr).2.2; omega
    · rw [List.mem_singleton] at hr; subst hr; omega
theorem total_le {L : List (List Pt)} {n : Nat} (h : ∀ r ∈ L, r.length ≤ n) : total L ≤ L.length * n := by
  induction L with
  | nil => simp [total]
  | cons r L ih =>
    have h1 := h r (by simp)
    have h2 := ih fun q hq => h q (by simp [hq])
    simp only [total, List.map_cons, List.sum_cons, List.length_cons, Nat.add_mul] at *
    omega
theorem rings_total {p : List Verb} (h : vPath p = true) : total (ringsOf p) ≤ 10000 := by
  obtain ⟨_, h1, h2⟩ := rings_ok h
  have := total_le h2
  have := Nat.mul_le_mul_right 241 h1
  omega
theorem vRings_len {L : List (List Pt)} (h : vRings L = true) : L.length ≤ 8 ∧ total L ≤ 200 := by
  simp only [vRings, Bool.and_eq_true, decide_eq_true_eq] at h
  exact ⟨h.1.2, h.2⟩
theorem okP_rng {p : Pt} (h1 : -16 ≤ p.x) (h2 : p.x ≤ 207) (h3 : -16 ≤ p.y) (h4 : p.y ≤ 207) : okP p := by constructor <;> omega
theorem okP_any {p : Pt} (h1 : -1001 ≤ p.x) (h2 : p.x ≤ 1001) (h3 : -1001 ≤ p.y) (h4 : p.y ≤ 1001) : okP p := by constructor <;> omega
theorem okLL.one {L : List (List Pt)} {p : Pt} (h : okLL L) (h1 : -16 ≤ p.x) (h2 : p.x ≤ 207) (h3 : -16 ≤ p.y) (h4 : p.y ≤ 207) : okLL (L ++ [[p]]) := h.snoc (okL_cons (okP_rng h1 h2 h3 h4) okL_nil)
theorem okLL.any {L : List (List Pt)} {p : Pt} (h : okLL L) (h1 : -1001 ≤ p.x) (h2 : p.x ≤ 1001) (h3 : -1001 ≤ p.y) (h4 : p.y ≤ 1001) : okLL (L ++ [[p]]) := h.snoc (okL_cons (okP_any h1 h2 h3 h4) okL_nil)
end Go.Proofs.YtcejoknapbhloaaGreat
