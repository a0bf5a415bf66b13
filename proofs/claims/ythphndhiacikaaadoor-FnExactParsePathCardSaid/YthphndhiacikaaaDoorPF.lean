/- Contracts of functions of the program vectorraster, each proved for all states that fit its description. No conditions. -/
import Derived.Test.YthphndhiacikaaaDoorPA
import Derived.Test.YthphndhiacikaaaDoorPE
import Derived.Test.YthphndhiacikaaaDoorKK
set_option linter.unusedSimpArgs false
set_option linter.unusedVariables false
section
set_option maxRecDepth 100000
set_option linter.unusedSimpArgs false
set_option linter.unusedVariables false
namespace Go.Proofs.YthphndhiacikaaaDoor
open Go Go.VE
def ringE (r : List Pt) : List Edge := (r.zip (r.drop 1 ++ r.take 1)).map fun p => ⟨p.1, p.2⟩
def edgesOf (L : List (List Pt)) : List Edge := L.flatMap ringE
theorem ringE_len (r : List Pt) : (ringE r).length = r.length := by simp [ringE]; omega
theorem ringE_get {r : List Pt} {k : Int} {p q : Pt} (hp : r[k.toNat]? = some p) (hq : r[((k + 1).tmod r.length).toNat]? = some q) (h0 : 0 ≤ k) : (ringE r)[k.toNat]? = some ⟨p, q⟩ := by
  have hk := (List.getElem?_eq_some_iff.1 hp).1
  simp only [ringE, List.getElem?_map, List.getElem?_zip_eq_some, Option.map_eq_some_iff]
  refine ⟨(p, q), ⟨hp, ?_⟩, rfl⟩
  rw [Int.tmod_eq_emod_of_nonneg (by omega)] at hq
  by_cases h : k.toNat + 1 < r.length
  · rw [Int.emod_eq_of_lt (by omega) (by omega), show (k + 1).toNat = k.toNat + 1 by omega] at hq
    rw [List.getElem?_append_left (by rw [List.length_drop]; omega), List.getElem?_drop, Nat.add_comm]
    exact hq
  · have e : k + 1 = r.length := by omega
    rw [e, Int.emod_self] at hq
    rw [List.getElem?_append_right (by rw [List.length_drop]; omega), List.length_drop, show k.toNat - (r.length - 1) = 0 by omega, List.getElem?_take]
    simpa using hq
theorem ringE_step {r : List Pt} {k : Int} {p q : Pt} (hp : r[k.toNat]? = some p) (hq : r[((k + 1).tmod r.length).toNat]? = some q) (h0 : 0 ≤ k) : (ringE r).take (k + 1).toNat = (ringE r).take k.toNat ++ [⟨p, q⟩] := takeN (ringE_get hp hq h0) h0
theorem edgesOf_snoc (L : List (List Pt)) (r : List Pt) : edgesOf (L ++ [r]) = edgesOf L ++ ringE r := by simp [edgesOf]
theorem edgesOf_len (L : List (List Pt)) : (edgesOf L).length = total L := by
  induction L with
  | nil => rfl
  | cons r L ih => simp only [edgesOf, List.flatMap_cons, List.length_append, ringE_len, total, List.map_cons, List.sum_cons] at *; rw [ih]
theorem tmod_lt {a : Int} {n : Nat} (h : 0 < n) (h0 : 0 ≤ a) : 0 ≤ a.tmod n ∧ a.tmod n < n := ⟨Int.tmod_nonneg _ h0, Int.tmod_lt_of_pos _ (by omega)⟩
def spEdges_A : (List (List Pt)) → List AV
  | L => [.c (.sl false (L.map lptC))]
def spEdges_pre : (List (List Pt)) → Prop
  | L => L.length ≤ 1000000000 ∧ total L ≤ 1000000000
def spEdges_post : (List (List Pt)) → AV → List Box → Prop
  | L, r, bs => r = .c (.sl false (((edgesOf L)).map edC)) ∧ bs = []
def spEdges : VE.Spec := famSpecS spEdges_A d_llpt spEdges_pre spEdges_post 0 true
theorem spEdges_q : spEdges.flat = true ∧ spEdges.mt = [] ∧ spEdges.shut = true ∧ spEdges.cost = 0 ∧ (∀ a i, spEdges.pre a i = (i = [] ∧ famPre d_llpt spEdges_A spEdges_pre a)) ∧ ∀ a i r b, spEdges.post a i r b = (famPost d_llpt spEdges_post a r b) := ⟨rfl, rfl, rfl, rfl, fun _ _ => rfl, fun _ _ _ _ => rfl⟩
end Go.Proofs.YthphndhiacikaaaDoor
end
section
set_option maxRecDepth 100000
set_option linter.unusedSimpArgs false
set_option linter.unusedVariables false
namespace Go.Proofs.YthphndhiacikaaaDoor
open Go Go.VE
def windE (es : List Edge) (x y : Int) : Int := (es.map fun e => con e x y).sum
def wind (L : List (List Pt)) (x y : Int) : Int := windE (edgesOf L) x y
theorem windE_app (a b : List Edge) (x y : Int) : windE (a ++ b) x y = windE a x y + windE b x y := by simp [windE]
theorem windE_snoc (a : List Edge) (e : Edge) (x y : Int) : windE (a ++ [e]) x y = windE a x y + con e x y := by simp [windE]
theorem stepE_bd (e : Edge) (y : Int) : -1 ≤ stepE e y ∧ stepE e y ≤ 1 := by unfold stepE; split <;> (try split) <;> omega
theorem con_bd (e : Edge) (x y : Int) : -1 ≤ con e x y ∧ con e x y ≤ 1 := by
  have := stepE_bd e y
  unfold con; split <;> omega
theorem windE_bd : ∀ (es : List Edge) (x y : Int), -(es.length : Int) ≤ windE es x y ∧ windE es x y ≤ es.length
  | [], _, _ => by simp [windE]
  | e :: r, x, y => by
    have h1 := windE_bd r x y
    have h2 := con_bd e x y
    simp only [windE, List.map_cons, List.sum_cons, List.length_cons] at *
    omega
theorem vRings_ok {L : List (List Pt)} (h : vRings L = true) : okLL L := by
  simp only [vRings, Bool.and_eq_true, List.all_eq_true] at h
  refine ⟨fun r hr => ?_⟩
  have := h.1.1 r hr
  simp only [vRing, Bool.and_eq_true] at this
  exact vPts_ok this.2
theorem ringE_ok {r : List Pt} (h : okL r) : ∀ e ∈ ringE r, okE e := by
  intro e he
  simp only [ringE, List.mem_map] at he
  obtain ⟨⟨a, b⟩, hm, rfl⟩ := he
  have := List.of_mem_zip hm
  refine ⟨h.all _ this.1, ?_⟩
  rcases List.mem_append.1 this.2 with h2 | h2
  · exact h.all _ (List.mem_of_mem_drop h2)
  · exact h.all _ (List.mem_of_mem_take h2)
theorem edges_ok {L : List (List Pt)} (h : okLL L) : ∀ e ∈ edgesOf L, okE e := by
  intro e he
  obtain ⟨r, hr, hm⟩ := List.mem_flatMap.1 he
  exact ringE_ok (h.all r hr) e hm
theorem edges_len {L : List (List Pt)} (h : vRings L = true) : (edgesOf L).length ≤ 200 := by rw [edgesOf_len]; exact (vRings_len h).2
theorem edge_at {L : List (List Pt)} {i : Int} {e : Edge} (h : vRings L = true) (he : (edgesOf L)[i.toNat]? = some e) : okE e := edges_ok (vRings_ok h) e (List.mem_of_getElem? he)
theorem con_yes {e : Edge} {x y : Int} (h : leftE e x y = true) : con e x y = stepE e y := if_pos h
theorem con_no {e : Edge} {x y : Int} (h : leftE e x y = false) : con e x y = 0 := by rw [con, h]; rfl
theorem con_0 {e : Edge} {x y : Int} (h : stepE e y = 0) : con e x y = 0 := by rw [con, h]; split <;> rfl
theorem wind_part {L : List (List Pt)} {i k : Int} {r : List Pt} (h : vRings L = true) (hr : L[i.toNat]? = some r) (x y : Int) : -200 ≤ windE (edgesOf (L.take i.toNat) ++ (ringE r).take k.toNat) x y ∧ windE (edgesOf (L.take i.toNat) ++ (ringE r).take k.toNat) x y ≤ 200 := by
  have h1 := windE_bd (edgesOf (L.take i.toNat) ++ (ringE r).take k.toNat) x y
  have h2 := total_mem hr
  have h3 := (vRings_len h).2
  rw [List.length_append, edgesOf_len, List.length_take, ringE_len] at h1
  omega
theorem ok_at {L : List (List Pt)} {i k : Int} {r : List Pt} {p : Pt} (h : vRings L = true) (hr : L[i.toNat]? = some r) (hp : r[k.toNat]? = some p) : okP p := ((vRings_ok h).all r (List.mem_of_getElem? hr)).all p (List.mem_of_getElem? hp)
def spWind_A : (List (List Pt)) × Int × Int → List AV
  | (L, x, y) => [.c (.sl false (L.map lptC)), I x, I y]
def spWind_pre : (List (List Pt)) × Int × Int → Prop
  | (L, x, y) => vRings L = true ∧ (-3000 ≤ x ∧ x ≤ 3000) ∧ -3000 ≤ y ∧ y ≤ 3000
def spWind_post : (List (List Pt)) × Int × Int → AV → List Box → Prop
  | (L, x, y), r, bs => r = I (wind L x y) ∧ bs = []
def spWind : VE.Spec := famSpec spWind_A d_llpt_i_i spWind_pre spWind_post 0 true
theorem spWind_q : spWind.flat = true ∧ spWind.mt = [] ∧ spWind.shut = false ∧ spWind.cost = 0 ∧ (∀ a i, spWind.pre a i = (i = [] ∧ famPre d_llpt_i_i spWind_A spWind_pre a)) ∧ ∀ a i r b, spWind.post a i r b = (famPost d_llpt_i_i spWind_post a r b) := ⟨rfl, rfl, rfl, rfl, fun _ _ => rfl, fun _ _ _ _ => rfl⟩
end Go.Proofs.YthphndhiacikaaaDoor
end
section
set_option maxRecDepth 100000
set_option linter.unusedSimpArgs false
set_option linter.unusedVariables false
namespace Go.Proofs.YthphndhiacikaaaDoor
open Go Go.VE
end Go.Proofs.YthphndhiacikaaaDoor
end
section
set_option maxRecDepth 100000
set_option linter.unusedSimpArgs false
set_option linter.unusedVariables false
namespace Go.Proofs.YthphndhiacikaaaDoor
open Go Go.VE
end Go.Proofs.YthphndhiacikaaaDoor
end
