/- Contracts of functions of the program vectorraster, each proved for all states that fit its description. No conditions. -/
import Derived.Test.YthphndhiacikaaaDoorPD
import Derived.Test.YthphndhiacikaaaDoorPC
import Derived.Test.YthphndhiacikaaaDoorPA
set_option linter.unusedSimpArgs false
set_option linter.unusedVariables false
section
set_option maxRecDepth 100000
set_option linter.unusedSimpArgs false
set_option linter.unusedVariables false
namespace Go.Proofs.YthphndhiacikaaaDoor
open Go Go.VE
structure okLL (L : List (List Pt)) : Prop where
  all : ∀ r ∈ L, okL r
theorem okLL.nil : okLL [] := ⟨by intro r hr; cases hr⟩
theorem okLL.snoc {L : List (List Pt)} {r : List Pt} (h : okLL L) (hr : okL r) : okLL (L ++ [r]) := ⟨fun q hq => (List.mem_append.1 hq).elim (h.all q) (fun e => by rw [List.mem_singleton] at e; exact e ▸ hr)⟩
theorem rings_ok {p : List Verb} (h : vPath p = true) : okLL (ringsOf p) ∧ (ringsOf p).length ≤ 31 ∧ ∀ r ∈ ringsOf p, r.length ≤ 241 := by
  have h30 := vPath_len h
  have := ringInv_at h p.length (Nat.le_refl _)
  rw [List.take_length] at this
  obtain ⟨h1, h2, h3, h4, h5⟩ := this
  unfold ringsOf
  split
  · exact ⟨⟨fun r hr => (h5 r hr).1⟩, by omega, fun r hr => by have := (h5 r hr).2.2; omega⟩
  · refine ⟨okLL.snoc ⟨fun r hr => (h5 r hr).1⟩ h1, by rw [List.length_append, List.length_singleton]; omega, fun r hr => ?_⟩
    rcases List.mem_append.1 hr with hr | hr
    · have := (h5 r hr).2.2; omega
    · rw [List.mem_singleton] at hr; subst hr; omega
theorem total_le {L : List (List Pt)} {n : Nat} (h : ∀ r ∈ L, r.length ≤ n) : total L ≤ L.length * n := by
  induction L with
  | nil => simp [total]
  | cons r L ih =>
    have h1 := h r (by simp)
    have h2 := ih fun q hq => h q (by simp [hq])
    simp only [total, List.map_cons, List.sum_cons, List.length_cons, Nat.add_mul] at *
    omega
theorem rings_total {p : List Verb} (h : vPath p = true) : total (ringsOf p) ≤ 10000 := by
  obtain ⟨_, h1, h2⟩ := rings_ok h
  have := total_le h2
  have := Nat.mul_le_mul_right 241 h1
  omega
theorem vRings_len {L : List (List Pt)} (h : vRings L = true) : L.length ≤ 8 ∧ total L ≤ 200 := by
  simp only [vRings, Bool.and_eq_true, decide_eq_true_eq] at h
  exact ⟨h.1.2, h.2⟩
theorem okP_rng {p : Pt} (h1 : -16 ≤ p.x) (h2 : p.x ≤ 207) (h3 : -16 ≤ p.y) (h4 : p.y ≤ 207) : okP p := by constructor <;> omega
theorem okP_any {p : Pt} (h1 : -1001 ≤ p.x) (h2 : p.x ≤ 1001) (h3 : -1001 ≤ p.y) (h4 : p.y ≤ 1001) : okP p := by constructor <;> omega
theorem okL_snoc {l : List Pt} {p : Pt} (h : okL l) (hp : okP p) : okL (l ++ [p]) := okL_app h (okL_cons hp okL_nil)
def spRRings_A : Unit → List AV
  | () => [.c .rdr]
def spRRings_pre : Unit → Prop
  | () => True
def spRRings_post : Unit → AV → List Box → Prop
  | (), r, bs => ∃ L, r = .c (.own 0 L.length false) ∧ bs = [⟨L.map lptC, 1, 41, true, false⟩] ∧ L.length ≤ 8 ∧ total L ≤ 200 ∧ okLL L
def spRRings : VE.Spec := famSpec spRRings_A d_r spRRings_pre spRRings_post 160 false
theorem spRRings_q : spRRings.flat = false ∧ spRRings.mt = [] ∧ spRRings.shut = false ∧ spRRings.cost = 160 ∧ (∀ a i, spRRings.pre a i = (i = [] ∧ famPre d_r spRRings_A spRRings_pre a)) ∧ ∀ a i r b, spRRings.post a i r b = (famPost d_r spRRings_post a r b) := ⟨rfl, rfl, rfl, rfl, fun _ _ => rfl, fun _ _ _ _ => rfl⟩
end Go.Proofs.YthphndhiacikaaaDoor
end
section
set_option maxRecDepth 100000
set_option linter.unusedSimpArgs false
set_option linter.unusedVariables false
namespace Go.Proofs.YthphndhiacikaaaDoor
open Go Go.VE
theorem okLL.one {L : List (List Pt)} {p : Pt} (h : okLL L) (h1 : -16 ≤ p.x) (h2 : p.x ≤ 207) (h3 : -16 ≤ p.y) (h4 : p.y ≤ 207) : okLL (L ++ [[p]]) := h.snoc (okL_cons (okP_rng h1 h2 h3 h4) okL_nil)
theorem okLL.any {L : List (List Pt)} {p : Pt} (h : okLL L) (h1 : -1001 ≤ p.x) (h2 : p.x ≤ 1001) (h3 : -1001 ≤ p.y) (h4 : p.y ≤ 1001) : okLL (L ++ [[p]]) := h.snoc (okL_cons (okP_any h1 h2 h3 h4) okL_nil)
def spARings_A : Unit → List AV
  | () => [.c .rdr]
def spARings_pre : Unit → Prop
  | () => True
def spARings_post : Unit → AV → List Box → Prop
  | (), r, bs => ∃ L, r = .c (.own 0 L.length false) ∧ bs = [⟨L.map lptC, 1, 41, true, false⟩] ∧ L.length ≤ 9 ∧ total L ≤ 210 ∧ okLL L
def spARings : VE.Spec := famSpec spARings_A d_r spARings_pre spARings_post 180 false
theorem spARings_q : spARings.flat = false ∧ spARings.mt = [] ∧ spARings.shut = false ∧ spARings.cost = 180 ∧ (∀ a i, spARings.pre a i = (i = [] ∧ famPre d_r spARings_A spARings_pre a)) ∧ ∀ a i r b, spARings.post a i r b = (famPost d_r spARings_post a r b) := ⟨rfl, rfl, rfl, rfl, fun _ _ => rfl, fun _ _ _ _ => rfl⟩
end Go.Proofs.YthphndhiacikaaaDoor
end
section
set_option maxRecDepth 100000
set_option linter.unusedSimpArgs false
set_option linter.unusedVariables false
namespace Go.Proofs.YthphndhiacikaaaDoor
open Go Go.VE
def spCorners_A : (List (List Pt)) → List AV
  | L => [.c (.sl false (L.map lptC))]
def spCorners_pre : (List (List Pt)) → Prop
  | L => L.length ≤ 1000000000 ∧ total L ≤ 1000000000
def spCorners_post : (List (List Pt)) → AV → List Box → Prop
  | L, r, bs => r = .c (.own 0 (L.flatten).length false) ∧ bs = [⟨(L.flatten).map ptC, 2, 47, true, false⟩]
def spCorners : VE.Spec := famSpec spCorners_A d_llpt spCorners_pre spCorners_post 0 true
theorem spCorners_q : spCorners.flat = true ∧ spCorners.mt = [] ∧ spCorners.shut = false ∧ spCorners.cost = 0 ∧ (∀ a i, spCorners.pre a i = (i = [] ∧ famPre d_llpt spCorners_A spCorners_pre a)) ∧ ∀ a i r b, spCorners.post a i r b = (famPost d_llpt spCorners_post a r b) := ⟨rfl, rfl, rfl, rfl, fun _ _ => rfl, fun _ _ _ _ => rfl⟩
theorem flat_snoc (L : List (List Pt)) (r : List Pt) : (L ++ [r]).flatten = L.flatten ++ r := by simp
theorem flat_len (L : List (List Pt)) : L.flatten.length = total L := by simp [total, List.length_flatten]
theorem flat_ok {L : List (List Pt)} {k : Int} {p : Pt} (h : okLL L) (hp : L.flatten[k.toNat]? = some p) : okP p := by
  obtain ⟨r, hr, hm⟩ := List.mem_flatten.1 (List.mem_of_getElem? hp)
  exact (h.all r hr).all p hm
def spNear_A : (List (List Pt)) → List AV
  | L => [.c .rdr, .c (.sl false (L.map lptC))]
def spNear_pre : (List (List Pt)) → Prop
  | L => L.length ≤ 1000000000 ∧ total L ≤ 1000000000 ∧ okLL L
def spNear_post : (List (List Pt)) → AV → List Box → Prop
  | L, r, bs => ∃ p : Pt, r = .agg (ptC p) ∧ bs = [] ∧ okP p
def spNear : VE.Spec := famSpec spNear_A d_r_llpt spNear_pre spNear_post 6 false
theorem spNear_q : spNear.flat = false ∧ spNear.mt = [] ∧ spNear.shut = false ∧ spNear.cost = 6 ∧ (∀ a i, spNear.pre a i = (i = [] ∧ famPre d_r_llpt spNear_A spNear_pre a)) ∧ ∀ a i r b, spNear.post a i r b = (famPost d_r_llpt spNear_post a r b) := ⟨rfl, rfl, rfl, rfl, fun _ _ => rfl, fun _ _ _ _ => rfl⟩
end Go.Proofs.YthphndhiacikaaaDoor
end
section
set_option maxRecDepth 100000
set_option linter.unusedSimpArgs false
set_option linter.unusedVariables false
namespace Go.Proofs.YthphndhiacikaaaDoor
open Go Go.VE
def spPlace_A : Unit → List AV
  | () => [.c .rdr]
def spPlace_pre : Unit → Prop
  | () => True
def spPlace_post : Unit → AV → List Box → Prop
  | (), r, bs => ∃ m, r = I m ∧ bs = [] ∧ m ∈ ([0, 3, 5, 7, 11, 4, 12, -1, 8] : List Int)
def spPlace : VE.Spec := famSpec spPlace_A d_r spPlace_pre spPlace_post 1 false
theorem spPlace_q : spPlace.flat = false ∧ spPlace.mt = [] ∧ spPlace.shut = false ∧ spPlace.cost = 1 ∧ (∀ a i, spPlace.pre a i = (i = [] ∧ famPre d_r spPlace_A spPlace_pre a)) ∧ ∀ a i r b, spPlace.post a i r b = (famPost d_r spPlace_post a r b) := ⟨rfl, rfl, rfl, rfl, fun _ _ => rfl, fun _ _ _ _ => rfl⟩
def spSide9_A : Unit → List AV
  | () => [.c .rdr]
def spSide9_pre : Unit → Prop
  | () => True
def spSide9_post : Unit → AV → List Box → Prop
  | (), r, bs => ∃ m, r = I m ∧ bs = [] ∧ m ∈ ([4, 5, 8, 3, 12, 1, 9, 0, 13] : List Int)
def spSide9 : VE.Spec := famSpec spSide9_A d_r spSide9_pre spSide9_post 1 false
theorem spSide9_q : spSide9.flat = false ∧ spSide9.mt = [] ∧ spSide9.shut = false ∧ spSide9.cost = 1 ∧ (∀ a i, spSide9.pre a i = (i = [] ∧ famPre d_r spSide9_A spSide9_pre a)) ∧ ∀ a i r b, spSide9.post a i r b = (famPost d_r spSide9_post a r b) := ⟨rfl, rfl, rfl, rfl, fun _ _ => rfl, fun _ _ _ _ => rfl⟩
def spTile_A : Unit → List AV
  | () => [.c .rdr]
def spTile_pre : Unit → Prop
  | () => True
def spTile_post : Unit → AV → List Box → Prop
  | (), r, bs => ∃ m, r = I m ∧ bs = [] ∧ m ∈ ([0, 1, 2, 3, 0, 1, 5, 8, 9, -1] : List Int)
def spTile : VE.Spec := famSpec spTile_A d_r spTile_pre spTile_post 1 false
theorem spTile_q : spTile.flat = false ∧ spTile.mt = [] ∧ spTile.shut = false ∧ spTile.cost = 1 ∧ (∀ a i, spTile.pre a i = (i = [] ∧ famPre d_r spTile_A spTile_pre a)) ∧ ∀ a i r b, spTile.post a i r b = (famPost d_r spTile_post a r b) := ⟨rfl, rfl, rfl, rfl, fun _ _ => rfl, fun _ _ _ _ => rfl⟩
def spRule_A : Unit → List AV
  | () => [.c .rdr]
def spRule_pre : Unit → Prop
  | () => True
def spRule_post : Unit → AV → List Box → Prop
  | (), r, bs => ∃ m, r = I m ∧ bs = [] ∧ m ∈ ([0, 1, 0, 1, 0, 1, 2, -1] : List Int)
def spRule : VE.Spec := famSpec spRule_A d_r spRule_pre spRule_post 1 false
theorem spRule_q : spRule.flat = false ∧ spRule.mt = [] ∧ spRule.shut = false ∧ spRule.cost = 1 ∧ (∀ a i, spRule.pre a i = (i = [] ∧ famPre d_r spRule_A spRule_pre a)) ∧ ∀ a i r b, spRule.post a i r b = (famPost d_r spRule_post a r b) := ⟨rfl, rfl, rfl, rfl, fun _ _ => rfl, fun _ _ _ _ => rfl⟩
def spRow_A : Unit → List AV
  | () => [.c .rdr]
def spRow_pre : Unit → Prop
  | () => True
def spRow_post : Unit → AV → List Box → Prop
  | (), r, bs => ∃ m, r = I m ∧ bs = [] ∧ m ∈ ([0, 10, 20, 30, 40, 47, 48, -1, 5] : List Int)
def spRow : VE.Spec := famSpec spRow_A d_r spRow_pre spRow_post 1 false
theorem spRow_q : spRow.flat = false ∧ spRow.mt = [] ∧ spRow.shut = false ∧ spRow.cost = 1 ∧ (∀ a i, spRow.pre a i = (i = [] ∧ famPre d_r spRow_A spRow_pre a)) ∧ ∀ a i r b, spRow.post a i r b = (famPost d_r spRow_post a r b) := ⟨rfl, rfl, rfl, rfl, fun _ _ => rfl, fun _ _ _ _ => rfl⟩
end Go.Proofs.YthphndhiacikaaaDoor
end
