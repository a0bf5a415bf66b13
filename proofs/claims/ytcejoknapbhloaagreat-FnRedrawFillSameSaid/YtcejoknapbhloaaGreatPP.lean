/- Contracts of functions of the program vectorraster, each proved for all states that fit its description. No conditions. -/
import Derived.Test.YtcejoknapbhloaaGreatPJ
import Derived.Test.YtcejoknapbhloaaGreatPA
import Derived.Test.YtcejoknapbhloaaGreatKK
import Derived.Test.YtcejoknapbhloaaGreatPO
import Derived.Test.YtcejoknapbhloaaGreatPC
import Derived.Test.YtcejoknapbhloaaGreatPH
set_option linter.unusedSimpArgs false
set_option linter.unusedVariables false
section
set_option maxRecDepth 100000
set_option linter.unusedSimpArgs false
set_option linter.unusedVariables false
namespace Go.Proofs.YtcejoknapbhloaaGreat
open Go Go.VE
def spEqP_A : (List Pt) × (List Pt) → List AV
  | (a, b) => [.c (.sl false (a.map ptC)), .c (.sl false (b.map ptC))]
def spEqP_pre : (List Pt) × (List Pt) → Prop
  | (a, b) => a.length ≤ 1000000000 ∧ b.length ≤ 1000000000
def spEqP_post : (List Pt) × (List Pt) → AV → List Box → Prop
  | (a, b), r, bs => r = B (decide (a = b)) ∧ bs = []
def spEqP : VE.Spec := famSpec spEqP_A d_lpt_lpt spEqP_pre spEqP_post 0 true
theorem spEqP_q : spEqP.flat = true ∧ spEqP.mt = [] ∧ spEqP.shut = false ∧ spEqP.cost = 0 ∧ (∀ a i, spEqP.pre a i = (i = [] ∧ famPre d_lpt_lpt spEqP_A spEqP_pre a)) ∧ ∀ a i r b, spEqP.post a i r b = (famPost d_lpt_lpt spEqP_post a r b) := ⟨rfl, rfl, rfl, rfl, fun _ _ => rfl, fun _ _ _ _ => rfl⟩
def spEqR_A : (List (List Pt)) × (List (List Pt)) → List AV
  | (a, b) => [.c (.sl false (a.map lptC)), .c (.sl false (b.map lptC))]
def spEqR_pre : (List (List Pt)) × (List (List Pt)) → Prop
  | (a, b) => a.length ≤ 1000000000 ∧ b.length ≤ 1000000000 ∧ total a ≤ 1000000000 ∧ total b ≤ 1000000000
def spEqR_post : (List (List Pt)) × (List (List Pt)) → AV → List Box → Prop
  | (a, b), r, bs => r = B (decide (a = b)) ∧ bs = []
def spEqR : VE.Spec := famSpec spEqR_A d_llpt_llpt spEqR_pre spEqR_post 0 true
theorem spEqR_q : spEqR.flat = true ∧ spEqR.mt = [] ∧ spEqR.shut = false ∧ spEqR.cost = 0 ∧ (∀ a i, spEqR.pre a i = (i = [] ∧ famPre d_llpt_llpt spEqR_A spEqR_pre a)) ∧ ∀ a i r b, spEqR.post a i r b = (famPost d_llpt_llpt spEqR_post a r b) := ⟨rfl, rfl, rfl, rfl, fun _ _ => rfl, fun _ _ _ _ => rfl⟩
end Go.Proofs.YtcejoknapbhloaaGreat
end
section
set_option maxRecDepth 100000
set_option linter.unusedSimpArgs false
set_option linter.unusedVariables false
namespace Go.Proofs.YtcejoknapbhloaaGreat
open Go Go.VE
end Go.Proofs.YtcejoknapbhloaaGreat
end
section
set_option maxRecDepth 100000
set_option linter.unusedSimpArgs false
set_option linter.unusedVariables false
namespace Go.Proofs.YtcejoknapbhloaaGreat
open Go Go.VE
theorem area_part2 {L : List (List Pt)} {i k : Int} {r : List Pt} (h : vRings L = true) (hr : L[i.toNat]? = some r) : -3600000000 ≤ areaE (edgesOf (L.take i.toNat) ++ (ringE r).take k.toNat) ∧ areaE (edgesOf (L.take i.toNat) ++ (ringE r).take k.toNat) ≤ 3600000000 := by
  have h0 := vRings_ok h
  have h1 := areaE_bd (es := edgesOf (L.take i.toNat) ++ (ringE r).take k.toNat) fun e he => by
    rcases List.mem_append.1 he with he | he
    · exact edges_ok ⟨fun q hq => h0.all q (List.mem_of_mem_take hq)⟩ e he
    · exact ringE_ok (h0.all r (List.mem_of_getElem? hr)) e (List.mem_of_mem_take he)
  have h2 := total_mem hr
  have h3 := (vRings_len h).2
  have h4 : (edgesOf (L.take i.toNat) ++ (ringE r).take k.toNat).length ≤ 200 := by
    rw [List.length_append, edgesOf_len, List.length_take, ringE_len]; omega
  omega
end Go.Proofs.YtcejoknapbhloaaGreat
end
section
set_option maxRecDepth 100000
set_option linter.unusedSimpArgs false
set_option linter.unusedVariables false
namespace Go.Proofs.YtcejoknapbhloaaGreat
open Go Go.VE
end Go.Proofs.YtcejoknapbhloaaGreat
end
section
set_option maxRecDepth 100000
set_option linter.unusedSimpArgs false
set_option linter.unusedVariables false
namespace Go.Proofs.YtcejoknapbhloaaGreat
open Go Go.VE
end Go.Proofs.YtcejoknapbhloaaGreat
end
section
set_option maxRecDepth 100000
set_option linter.unusedSimpArgs false
set_option linter.unusedVariables false
namespace Go.Proofs.YtcejoknapbhloaaGreat
open Go Go.VE
def spDRO_A : (List UInt8) → List AV
  | code => [.c (.sl false (byC code))]
def spDRO_pre : (List UInt8) → Prop
  | code => code.length ≤ 1048576
def spDRO_post : (List UInt8) → AV → List Box → Prop
  | code, r, bs => ∃ p : List Verb, r = .c (.sl false (p.map vbC)) ∧ bs = [] ∧ p.length ≤ 31 ∧ nPts p ≤ 100
def spDRO : VE.Spec := famSpecS spDRO_A d_ly spDRO_pre spDRO_post 230 false
theorem spDRO_q : spDRO.flat = false ∧ spDRO.mt = [] ∧ spDRO.shut = true ∧ spDRO.cost = 230 ∧ (∀ a i, spDRO.pre a i = (i = [] ∧ famPre d_ly spDRO_A spDRO_pre a)) ∧ ∀ a i r b, spDRO.post a i r b = (famPost d_ly spDRO_post a r b) := ⟨rfl, rfl, rfl, rfl, fun _ _ => rfl, fun _ _ _ _ => rfl⟩
end Go.Proofs.YtcejoknapbhloaaGreat
end
