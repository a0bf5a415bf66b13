/- A part of the engine: what operations do to described states, proved sound against the model. No conditions. -/
import Derived.Test.YtofelomoieamoaaW10
set_option linter.unusedSimpArgs false
set_option linter.unusedVariables false
namespace Go.VE
open Go

theorem backId_cons0 (p : Nat) (ps : List Nat) (n : Nat) : backId (p :: ps) n 0 = p := rfl
theorem backId_cons (p : Nat) (ps : List Nat) (n j : Nat) : backId (p :: ps) n (j + 1) = backId ps n j := by
  simp only [backId, nthL_eq, List.getElem?_cons_succ, List.length_cons, Nat.add_sub_add_right]
theorem backId_nil (n j : Nat) : backId [] n j = n + j := rfl
theorem backId_lt {ids : List Nat} {j b : Nat} (n : Nat) (h : ids[j]? = some b) : backId ids n j = b := by simp [backId, nthL_eq, h]
theorem backId_ge {ids : List Nat} {j : Nat} (n : Nat) (h : ids.length ≤ j) : backId ids n j = n + (j - ids.length) := by
  have : ids[j]? = none := List.getElem?_eq_none h
  simp [backId, nthL_eq, this]

theorem addOut_env (φ : Nat → Nat) : ∀ (bs : List Box) (ps : List Nat) (n : Nat) (s : St), (addOut φ ps n s bs).env = s.env ∧ (addOut φ ps n s bs).nt = s.nt ∧ (addOut φ ps n s bs).np = s.np ∧ (addOut φ ps n s bs).nx = s.nx ∧ (addOut φ ps n s bs).pk = s.pk
  | [], ps, _, _ => by cases ps <;> exact ⟨rfl, rfl, rfl, rfl, rfl⟩
  | b :: r, p :: ps, n, s => by simp only [addOut]; exact addOut_env φ r ps n _
  | b :: r, [], n, s => by simp only [addOut]; exact addOut_env φ r [] (n + 1) _

theorem addOut_other (φ : Nat → Nat) : ∀ (bs : List Box) (ps : List Nat) (n : Nat) (s : St) (c : Nat), (∀ j, j < bs.length → backId ps n j ≠ c) → (addOut φ ps n s bs).box c = s.box c
  | [], ps, _, _, _, _ => by cases ps <;> rfl
  | b :: r, p :: ps, n, s, c, h => by
    simp only [addOut]
    rw [addOut_other φ r ps n _ c fun j hj => by have := h (j + 1) (by simpa using hj); rwa [backId_cons] at this]
    exact St.box_set_ne _ _ fun e => h 0 (by simp) (by rw [backId_cons0, e])
  | b :: r, [], n, s, c, h => by
    simp only [addOut]
    rw [addOut_other φ r [] (n + 1) _ c fun j hj => by have := h (j + 1) (by simpa using hj); simp only [backId_nil] at this ⊢; omega]
    exact St.box_set_ne _ _ fun e => h 0 (by simp) (by rw [backId_nil, e]; rfl)

theorem addOut_at (φ : Nat → Nat) : ∀ (bs : List Box) (ps : List Nat) (n : Nat) (s : St), (∀ i j, i < bs.length → j < bs.length → backId ps n i = backId ps n j → i = j) → ∀ j bx, bs[j]? = some bx → (addOut φ ps n s bs).box (backId ps n j) = some (mapB φ bx)
  | [], _, _, _, _, j, bx, h => by simp at h
  | b :: r, p :: ps, n, s, hi, j, bx, h => by
    simp only [addOut]
    cases j with
    | zero =>
      simp only [List.getElem?_cons_zero, Option.some.injEq] at h
      subst h
      rw [backId_cons0, addOut_other φ r ps n _ p fun j hj e => by
        have := hi (j + 1) 0 (by simpa using hj) (by simp) (by rw [backId_cons, backId_cons0]; exact e)
        omega]
      exact St.box_set_same _ _ _
    | succ j =>
      rw [backId_cons]
      exact addOut_at φ r ps n _ (fun i j hi' hj' e => by
        have := hi (i + 1) (j + 1) (by simpa using hi') (by simpa using hj') (by rw [backId_cons, backId_cons]; exact e)
        omega) j bx (by simpa using h)
  | b :: r, [], n, s, hi, j, bx, h => by
    simp only [addOut]
    cases j with
    | zero =>
      simp only [List.getElem?_cons_zero, Option.some.injEq] at h
      subst h
      have e0 : backId [] n 0 = n := rfl
      rw [e0, addOut_other φ r [] (n + 1) _ n fun j hj e => by rw [backId_nil] at e; omega]
      exact St.box_set_same _ _ _
    | succ j =>
      have := addOut_at φ r [] (n + 1) (s.setBox n (some (mapB φ b))) (fun i j _ _ e => by simp only [backId_nil] at e; omega) j bx (by simpa using h)
      rw [backId_nil] at this ⊢
      rw [show n + (j + 1) = n + 1 + j by omega]
      exact this

theorem addOut_keyed (φ : Nat → Nat) : ∀ (bs : List Box) (ps : List Nat) (n : Nat) (s : St) (c : Nat), (addOut φ ps n s bs).keyed c ↔ (∃ j, j < bs.length ∧ backId ps n j = c) ∨ s.keyed c
  | [], ps, _, _, _ => by cases ps <;> simp [addOut]
  | b :: r, p :: ps, n, s, c => by
    simp only [addOut]
    rw [addOut_keyed φ r ps n _ c, St.keyed_set]
    constructor
    · rintro (⟨j, h1, h2⟩ | h | h)
      · exact .inl ⟨j + 1, by simpa using h1, by rw [backId_cons]; exact h2⟩
      · exact .inl ⟨0, by simp, by rw [backId_cons0, h]⟩
      · exact .inr h
    · rintro (⟨j, h1, h2⟩ | h)
      · cases j with
        | zero => exact .inr (.inl h2.symm)
        | succ j => exact .inl ⟨j, by simpa using h1, by rw [backId_cons] at h2; exact h2⟩
      · exact .inr (.inr h)
  | b :: r, [], n, s, c => by
    simp only [addOut]
    rw [addOut_keyed φ r [] (n + 1) _ c, St.keyed_set]
    simp only [backId_nil]
    constructor
    · rintro (⟨j, h1, h2⟩ | h | h)
      · exact .inl ⟨j + 1, by simpa using h1, by omega⟩
      · exact .inl ⟨0, by simp, by omega⟩
      · exact .inr h
    · rintro (⟨j, h1, h2⟩ | h)
      · cases j with
        | zero => exact .inr (.inl (by omega))
        | succ j => exact .inl ⟨j, by simpa using h1, by omega⟩
      · exact .inr (.inr h)

theorem mapB_fit (φ : Nat → Nat) (b : Box) : (mapB φ b).es.length = b.es.length ∧ (mapB φ b).k = b.k ∧ (mapB φ b).fz = b.fz ∧ (mapB φ b).row = b.row ∧ (mapB φ b).ty = b.ty := by
  unfold mapB; split <;> simp_all

section
variable {P : Program} {X : Cx} {s : St} {a : Act} {w w' : World} {β : Nat → Option Nat} {cp : Nat → Nat} {Rd : Nat → Prop}

theorem passBs_ren (s : St) (ids : List Nat) : ∀ l, passBs s ids l = renIns s (renB s ids) l
  | [] => rfl
  | b :: r => by simp only [passBs, renIns, List.map_cons]; rw [passBs_ren s ids r]; rfl

theorem passOkB_box {lids ids : List Nat} : ∀ {l : List Nat}, passOkB s lids ids l → ∀ b ∈ l, ∃ bx, s.box b = some bx ∧ bx.fz = false ∧ (bx.row = false → renOks s lids ids bx.es.flatten)
  | [], _, b, hb => by simp at hb
  | x :: r, h, b, hb => by
    obtain ⟨h1, h2⟩ := h
    rcases List.mem_cons.1 hb with rfl | hb
    · cases hbx : s.box b with
      | none => rw [hbx] at h1; exact h1.elim
      | some bx =>
        rw [hbx] at h1
        refine ⟨bx, rfl, h1.1, fun hr => ?_⟩
        have := h1.2
        rw [hr] at this
        exact this
    · exact passOkB_box h2 b hb

/-- The numbers behind a call. -/
structure Back (s : St) (pids : List Nat) (nid n : Nat) : Prop where
  ren : RenOK s pids
  fresh : ∀ j, j < 8 → ¬ s.keyed (nid + j)
  few : n ≤ pids.length + 8
  long : pids.length ≤ n

theorem Back.inj {pids : List Nat} {nid n : Nat} (h : Back s pids nid n) : ∀ i j, i < n → j < n → backId pids nid i = backId pids nid j → i = j := by
  have key : ∀ i, i < pids.length → s.keyed (backId pids nid i) := fun i hi => by
    have e := List.getElem?_eq_getElem hi
    rw [backId_lt nid e]
    obtain ⟨bx, h1, _⟩ := h.ren.box _ (List.getElem_mem hi)
    exact St.keyed_of_box h1
  have unk : ∀ i, pids.length ≤ i → i < n → ¬ s.keyed (backId pids nid i) := fun i hi hn => by
    rw [backId_ge nid hi]
    exact h.fresh _ (by have := h.few; omega)
  intro i j hi hj e
  rcases Nat.lt_or_ge i pids.length with h1 | h1 <;> rcases Nat.lt_or_ge j pids.length with h2 | h2
  · have e1 := List.getElem?_eq_getElem h1
    have e2 := List.getElem?_eq_getElem h2
    rw [backId_lt nid e1, backId_lt nid e2] at e
    exact h.ren.inj i j _ e1 (by rw [e2, e])
  · exact absurd (e ▸ key i h1) (unk j h2 hj)
  · exact absurd (e ▸ key j h2) (unk i h1 hi)
  · rw [backId_ge nid h1, backId_ge nid h2] at e; omega

theorem call_post (h : Good X s a w β cp Rd) {nid : Nat} {sp : Spec} (hf : ∀ j, j < 8 → ¬ s.keyed (nid + j)) (hnx : nid + 8 ≤ s.nx) {lids pids : List Nat} (hI : RenOK s pids) (hd2 : ∀ b ∈ lids, b ∉ pids) {v : Value} {r : AV} {bs : List Box}
    {β' : Nat → Option Nat} {cp' : Nat → Nat} {Rd' : Nat → Prop} (hg : Gives X.rt sp w w' (lendAv X s β Rd (lids ++ pids)) Rd s.pk (renIns s (renB s pids) pids) (renβ β pids) (rencp cp pids) v r bs β' cp' Rd') {d : Option Nat} (hd : dstOK s.nt d) :
    ∃ β2 cp2 Rd2, Good X ((afterS nid s sp lids pids bs).put d (mapA (backId pids nid) r)) (a.put d v) w' β2 cp2 Rd2 ∧ (pids = [] → Fr w Rd w' Rd2) := by
  have hpl : (renIns s (renB s pids) pids).length = pids.length := by simp [renIns]
  have few : bs.length ≤ pids.length + 8 := by have := hg.few; rwa [hpl] at this
  have long : pids.length ≤ bs.length := by have := hg.long; rwa [hpl] at this
  have hB : Back s pids nid bs.length := ⟨hI, hf, few, long⟩
  have hinj := hB.inj
  -- the state that is filled
  have s0 : ∀ c bx0, (baseS s sp.flat lids).box c = some bx0 → ∃ bx, s.box c = some bx ∧ bx0.es = bx.es ∧ bx0.k = bx.k ∧ bx0.ty = bx.ty ∧ bx0.row = bx.row ∧ (bx0.fz = false → bx.fz = false ∧ (sp.flat = false → c ∉ lids)) := by
    intro c bx0 hb
    cases hfl : sp.flat with
    | true =>
      rw [hfl] at hb
      exact ⟨bx0, hb, rfl, rfl, rfl, rfl, fun hz => ⟨hz, fun h => by cases h⟩⟩
    | false =>
      rw [hfl] at hb
      simp only [baseS, freeze_box, Option.map_eq_some_iff] at hb
      obtain ⟨bx, h1, h2⟩ := hb
      refine ⟨bx, h1, ?_⟩
      subst h2
      by_cases hc : c ∈ lids
      · rw [if_pos hc]; exact ⟨rfl, rfl, rfl, rfl, fun h => by cases h⟩
      · rw [if_neg hc]; exact ⟨rfl, rfl, rfl, rfl, fun hz => ⟨hz, fun _ => hc⟩⟩
  have s0key : ∀ c, (baseS s sp.flat lids).keyed c ↔ s.keyed c := by
    intro c
    cases sp.flat with
    | true => exact Iff.rfl
    | false => exact freeze_keyed s lids c
  have key1 : ∀ c, (afterS nid s sp lids pids bs).keyed c ↔ (∃ j, j < bs.length ∧ backId pids nid j = c) ∨ s.keyed c := fun c =>
    (addOut_keyed (backId pids nid) bs pids nid (setPk (baseS s sp.flat lids) (s.pk + sp.cost)) c).trans (or_congr Iff.rfl (s0key c))
  have eenv : (afterS nid s sp lids pids bs).env = s.env ∧ (afterS nid s sp lids pids bs).nt = s.nt ∧ (afterS nid s sp lids pids bs).np = s.np ∧ (afterS nid s sp lids pids bs).nx = s.nx ∧ (afterS nid s sp lids pids bs).pk = s.pk + sp.cost := by
    obtain ⟨e1, e2, e3, e4, e5⟩ := addOut_env (backId pids nid) bs pids nid (setPk (baseS s sp.flat lids) (s.pk + sp.cost))
    obtain ⟨f1, f2, f3, f4, _⟩ := freeze_env s lids
    refine ⟨e1.trans ?_, e2.trans ?_, e3.trans ?_, e4.trans ?_, e5⟩ <;> cases sp.flat <;> first | rfl | assumption
  have boxAt : ∀ j bx, bs[j]? = some bx → (afterS nid s sp lids pids bs).box (backId pids nid j) = some (mapB (backId pids nid) bx) := fun j bx hj =>
    addOut_at (backId pids nid) bs pids nid _ hinj j bx hj
  have boxOther : ∀ c, (∀ j, j < bs.length → backId pids nid j ≠ c) → (afterS nid s sp lids pids bs).box c = (baseS s sp.flat lids).box c := fun c hc =>
    addOut_other (backId pids nid) bs pids nid (setPk (baseS s sp.flat lids) (s.pk + sp.cost)) c hc
  generalize hS : afterS nid s sp lids pids bs = S at *
  -- the numbers, back
  obtain ⟨J, hJ1, hJ2⟩ : ∃ J : Nat → Option Nat, (∀ j, j < bs.length → J (backId pids nid j) = some j) ∧ ∀ c j, J c = some j → j < bs.length ∧ backId pids nid j = c := by
    classical
    refine ⟨fun c => if hc : ∃ j, j < bs.length ∧ backId pids nid j = c then some hc.choose else none, fun j hj => ?_, fun c j hcj => ?_⟩
    · have hc : ∃ j', j' < bs.length ∧ backId pids nid j' = backId pids nid j := ⟨j, hj, rfl⟩
      simp only [dif_pos hc, Option.some.injEq]
      exact hinj _ _ hc.choose_spec.1 hj hc.choose_spec.2
    · by_cases hc : ∃ j', j' < bs.length ∧ backId pids nid j' = c
      · simp only [dif_pos hc, Option.some.injEq] at hcj
        subst hcj
        exact hc.choose_spec
      · simp only [dif_neg hc] at hcj; cases hcj
  let β1 : Nat → Option Nat := fun c => match J c with | some j => β' j | none => β c
  let cp1 : Nat → Nat := fun c => match J c with | some j => cp' j | none => cp c
  have β1at : ∀ j, j < bs.length → β1 (backId pids nid j) = β' j ∧ cp1 (backId pids nid j) = cp' j := fun j hj => by simp only [β1, cp1, hJ1 j hj, and_self]
  have old1 : ∀ c, (∀ j, j < bs.length → backId pids nid j ≠ c) → β1 c = β c ∧ cp1 c = cp c := fun c hc => by
    have : J c = none := by
      cases hj : J c with
      | none => rfl
      | some j => exact absurd (hJ2 c j hj).2 (hc j (hJ2 c j hj).1)
    simp only [β1, cp1, this, and_self]
  -- what a box is
  have boxes1 : ∀ c bx, S.box c = some bx → (∃ j bx', j < bs.length ∧ c = backId pids nid j ∧ bs[j]? = some bx' ∧ bx = mapB (backId pids nid) bx' ∧ β1 c = β' j ∧ cp1 c = cp' j) ∨
      (∃ bx', c ∉ pids ∧ s.box c = some bx' ∧ bx.es = bx'.es ∧ bx.k = bx'.k ∧ bx.ty = bx'.ty ∧ bx.row = bx'.row ∧ (bx.fz = false → bx'.fz = false ∧ (sp.flat = false → c ∉ lids)) ∧ β1 c = β c ∧ cp1 c = cp c) := by
    intro c bx hb
    by_cases hc : ∃ j, j < bs.length ∧ backId pids nid j = c
    · obtain ⟨j, hj, rfl⟩ := hc
      have hbj := List.getElem?_eq_getElem hj
      rw [boxAt j _ hbj] at hb
      cases hb
      exact .inl ⟨j, _, hj, rfl, hbj, rfl, (β1at j hj).1, (β1at j hj).2⟩
    · have hc' : ∀ j, j < bs.length → backId pids nid j ≠ c := fun j hj e => hc ⟨j, hj, e⟩
      rw [boxOther c hc'] at hb
      obtain ⟨bx', h1, h2, h3, h4, h5, h6⟩ := s0 c bx hb
      refine .inr ⟨bx', fun hm => ?_, h1, h2, h3, h4, h5, h6, (old1 c hc').1, (old1 c hc').2⟩
      obtain ⟨j, hj, rfl⟩ := List.getElem_of_mem hm
      exact hc' j (by omega) (backId_lt nid (List.getElem?_eq_getElem hj))
  have pas : ∀ j g, j < pids.length → renβ β pids j = some g → ∃ b bx, pids[j]? = some b ∧ s.box b = some bx ∧ bx.fz = false ∧ β b = some g := by
    intro j g hj hgj
    have e := List.getElem?_eq_getElem hj
    obtain ⟨bx, h1, h2⟩ := hI.box _ (List.getElem_mem hj)
    refine ⟨_, bx, e, h1, h2, ?_⟩
    simpa [renβ, e] using hgj
  have hlt : ∀ g, has s β g → g < w.heap.size := fun g hh => h.lt hh
  -- a block of a box behind the call: new, or the same box's
  have org1 : ∀ c bx g, S.box c = some bx → β1 c = some g → (∃ bx', s.box c = some bx' ∧ β c = some g ∧ (bx.fz = false → bx'.fz = false)) ∨ w.heap.size ≤ g := by
    intro c bx g hb hgc
    rcases boxes1 c bx hb with ⟨j, bx', hj, rfl, h4, rfl, h6, _⟩ | ⟨bx', _, h4, _, _, _, _, h5, h6, _⟩
    · rw [h6] at hgc
      rcases (hg.org j bx' g h4 hgc).1 with h7 | ⟨h7, h8⟩
      · exact .inr h7
      · rw [hpl] at h7
        obtain ⟨b, bx2, q1, q2, q3, q4⟩ := pas j g h7 h8
        rw [backId_lt nid q1]
        exact .inl ⟨bx2, q2, q4, fun _ => q3⟩
    · rw [h6] at hgc; exact .inl ⟨bx', h4, hgc, fun hz => (h5 hz).1⟩
  have owns1 : ∀ g, owns S β1 g → owns s β g ∨ w.heap.size ≤ g := by
    rintro g ⟨c, bx, h1, hz, h2⟩
    rcases org1 c bx g h1 h2 with ⟨bx', h3, h4, h5⟩ | h3
    · exact .inl ⟨c, bx', h3, h5 hz, h4⟩
    · exact .inr h3
  have hasrd : ∀ g, has S β1 g → ¬ Rd' g := by
    intro g hh hr
    obtain ⟨c, bx, h1, h2⟩ := hh
    rcases boxes1 c bx h1 with ⟨j, bx', hj, rfl, h4, rfl, h6, _⟩ | ⟨bx', _, h4, _, _, _, _, _, h6, _⟩
    · rw [h6] at h2; exact (hg.org j bx' g h4 h2).2 hr
    · rw [h6] at h2
      have hh : has s β g := ⟨c, bx', h4, h2⟩
      rcases hg.rdge g hr with h7 | h7
      · exact h.own_rd g hh h7
      · have := hlt g hh; omega
  have sub : ∀ g, X.mt S β1 Rd' g → avoid (lendAv X s β Rd (lids ++ pids)) bs β' Rd' sp.flat w.heap.size g := by
    rintro g (hm | ⟨c, bx, h1, hz, h2⟩ | hm)
    · exact .inl (.inl hm)
    · rcases boxes1 c bx h1 with ⟨j, bx', hj, rfl, h4, rfl, h6, _⟩ | ⟨bx', hcp, h4, _, _, _, _, h5, h6, _⟩
      · rw [h6] at h2
        exact .inr (.inl ⟨j, bx', by rw [exp_box]; exact h4, h2⟩)
      · rw [h6] at h2
        obtain ⟨z1, z2⟩ := h5 hz
        cases hfl : sp.flat with
        | true => exact .inr (.inr (.inr ⟨rfl, hlt g ⟨c, bx', h4, h2⟩⟩))
        | false =>
          refine .inl (.inr (.inl ⟨⟨c, bx', h4, z1, h2⟩, fun b hb bx3 h7 hbb => ?_⟩))
          have := h.inj c b bx' bx3 g h4 h7 h2 hbb
          subst this
          rcases List.mem_append.1 hb with h8 | h8
          · exact z2 hfl h8
          · exact hcp h8
    · exact .inr (.inr (.inl hm))
  have mtold : ∀ g, g < w.heap.size → X.mt S β1 Rd' g → X.mt s β Rd g := by
    rintro g hlt' (hm | hm | hm)
    · exact .inl hm
    · rcases owns1 g hm with h1 | h1
      · exact .inr (.inl h1)
      · omega
    · rcases hg.rdge g hm with h1 | h1
      · exact .inr (.inr h1)
      · omega
  -- handles go on
  have goes : ∀ b, s.keyed b → ∀ bx', S.box b = some bx' → ∃ bx, s.box b = some bx ∧ ((bx'.es.length = bx.es.length ∧ β1 b = β b ∧ cp1 b = cp b ∧ bx'.k = bx.k) ∨ bx.es.length < bx'.es.length) := by
    intro b hk bx' hb
    rcases boxes1 b bx' hb with ⟨j, bx2, hj, rfl, h4, rfl, h6, h7⟩ | ⟨bx2, _, h4, q1, q2, q3, _, _, h6, h7⟩
    · rcases Nat.lt_or_ge j pids.length with hjp | hjp
      · have e := List.getElem?_eq_getElem hjp
        obtain ⟨bx, p1, p2⟩ := hI.box _ (List.getElem_mem hjp)
        rw [backId_lt nid e] at h6 h7 ⊢
        have hin : (renIns s (renB s pids) pids)[j]? = some (renB s pids bx) := by simp [renIns, e, boxN_of p1]
        obtain ⟨g1, g2⟩ := hg.pins j _ bx2 hin h4
        obtain ⟨f1, f2⟩ := renB_fit (s := s) pids bx
        obtain ⟨m1, m2, _⟩ := mapB_fit (backId pids nid) bx2
        rw [f1] at g1 g2
        refine ⟨bx, p1, ?_⟩
        rw [m1, m2]
        rcases Nat.lt_or_eq_of_le g1 with g3 | g3
        · exact .inr g3
        · obtain ⟨g4, g5, g6⟩ := g2 g3.symm
          refine .inl ⟨g3.symm, h6.trans (g4.trans (by simp [renβ, e])), h7.trans (g5.trans (by simp [rencp, List.getD_eq_getElem?_getD, e])), g6.trans f2⟩
      · rw [backId_ge nid hjp] at hk
        exact absurd hk (hf _ (by omega))
    · exact ⟨bx2, h4, .inl ⟨by rw [q1], h6, h7, q2⟩⟩
  have hkey1 : ∀ b, s.keyed b → S.keyed b := fun b hb => (key1 b).2 (.inr hb)
  have hH : ∀ c v, hOf s β cp c v → hOf S β1 cp1 c v := fun c v hc => hc.go hkey1 goes
  have hH2 : ∀ c b n, hkey c = some (b, n) → ∀ v, hOf (expSt bs) β' cp' c v → hOf S β1 cp1 (setId (backId pids nid b) c) v := by
    intro c b n hk v hc
    obtain ⟨b', n', k1, k2, k3⟩ := hc
    rw [hk] at k1
    cases k1
    rw [exp_keyed] at k2
    have hb' := List.getElem?_eq_getElem k2
    refine ⟨backId pids nid b, n, hkey_setId hk _, (key1 _).2 (.inl ⟨b, k2, rfl⟩), fun bx hb => ?_⟩
    rw [boxAt b _ hb'] at hb
    cases hb
    obtain ⟨m1, m2, _⟩ := mapB_fit (backId pids nid) bs[b]
    rw [m1, m2, (β1at b k2).1, (β1at b k2).2, hV_setId]
    exact k3 _ (by rw [exp_box]; exact hb')
  have hM2 : ∀ v c, MC w' (avoid (lendAv X s β Rd (lids ++ pids)) bs β' Rd' sp.flat w.heap.size) Rd' (hOf (expSt bs) β' cp') v c → MC w' (X.mt S β1 Rd') Rd' (hOf S β1 cp1) v (mapC (backId pids nid) c) := fun v c hc =>
    (hc.mono (K := fun _ => True) (Mt' := X.mt S β1 Rd') (fun _ _ _ => rfl) (Nat.le_refl _) (fun g _ hm => sub g hm) (fun _ h => h) (cIds_all c) (fun _ _ _ _ _ _ h => h)).map hH2
  have hkeep : ∀ g, g < w.heap.size → ¬ owns s β g → ¬ Rd g → w'.heap[g]? = w.heap[g]? := fun g hl ho hr => hg.keeps.block g hl fun hq => by
    rcases hq with hq | hq
    · exact hr hq
    · obtain ⟨b, bx, _, p2, p3, p4⟩ := ren_has hI hq
      exact ho ⟨b, bx, p2, p3, p4⟩
  have G : Good X S a w' β1 cp1 Rd' := by
    refine h.re eenv.1 eenv.2.1 eenv.2.2.1 (fun b hb => ?_) hg.keeps.os hg.keeps.tape hg.keeps.output hg.keeps.size hkeep hg.rd (fun g hr => (hg.rdge g hr).imp id (·.1)) owns1 (fun b bx' g h1 h2 => (org1 b bx' g h1 h2).imp (fun ⟨bx, q1, q2, _⟩ => ⟨bx, q1, q2⟩) id) hasrd (fun g hr => hg.same g (h.rd0 g hr)) ?_ hH
      (fun i q hq => hq.go hkey1 goes) ?_ ?_
    · rw [eenv.2.2.2.1]
      rcases (key1 b).1 hb with ⟨j, hj, rfl⟩ | h1
      · rcases Nat.lt_or_ge j pids.length with hjp | hjp
        · have e := List.getElem?_eq_getElem hjp
          rw [backId_lt nid e]
          obtain ⟨bx, p1, _⟩ := hI.box _ (List.getElem_mem hjp)
          exact h.fresh _ (St.keyed_of_box p1)
        · rw [backId_ge nid hjp]; omega
      · exact h.fresh b h1
    · intro b b' bx bx2 g h1 h2 h3 h4
      have mixed : ∀ (i : Nat) (y : Box) (b' : Nat) (y' : Box), i < bs.length → bs[i]? = some y → b' ∉ pids → s.box b' = some y' → β' i = some g → β b' = some g → False := by
        intro i y b' y' hi hy hnp hy' hβi hβb
        rcases (hg.org i y g hy hβi).1 with q1 | ⟨q1, q2⟩
        · have := hlt g ⟨b', y', hy', hβb⟩; omega
        · rw [hpl] at q1
          obtain ⟨b0, bx0, p1, p2, p3, p4⟩ := pas i g q1 q2
          have := h.inj b0 b' bx0 y' g p2 hy' p4 hβb
          subst this
          exact hnp (List.mem_of_getElem? p1)
      rcases boxes1 b bx h1 with ⟨i, y, hi, rfl, h5, _, h6, _⟩ | ⟨y, hn, h5, _, _, _, _, _, h6, _⟩ <;> rcases boxes1 b' bx2 h2 with ⟨i', y', hi', rfl, h5', _, h6', _⟩ | ⟨y', hn', h5', _, _, _, _, _, h6', _⟩ <;> rw [h6] at h3 <;> rw [h6'] at h4
      · rw [hg.inj i i' y y' g h5 h5' h3 h4]
      · exact (mixed i y b' y' hi h5 hn' h5' h3 h4).elim
      · exact (mixed i' y' b y hi' h5' hn h5 h4 h3).elim
      · exact h.inj b b' y y' g h5 h5' h3 h4
    · intro g hr
      rw [eenv.2.2.2.2]
      by_cases hrd : Rd g
      · obtain ⟨q1, bv, p, cs, q2, q3, q4, q5⟩ := h.rdok g hrd
        obtain ⟨bv2, m, m', q6, q7⟩ := hg.same g hrd
        obtain ⟨q8, bv3, p3, cs3, q9, q10, _⟩ := hg.rdok g hr
        obtain ⟨rfl, _⟩ := q2.inj q6
        obtain ⟨_, rfl⟩ := q7.inj q9
        exact ⟨q8, bv, p3, cs, q7, q10, q4, q5.mono (fun g hl hm => hkeep g hl (fun ho => hm (.inr (.inl ho))) (fun hr => hm (.inr (.inr hr)))) hg.keeps.size mtold⟩
      · obtain ⟨bv, p, cs, q1, q2, q3, q4⟩ := hg.rdnew g hr hrd
        exact ⟨q1.lt, bv, p, cs, q1, q2, q3, q4.mono (fun _ _ _ => rfl) (Nat.le_refl _) fun g _ hm => sub g hm⟩
    · intro c bx hb
      rcases boxes1 c bx hb with ⟨j, y, hj, rfl, h5, rfl, h6, h7⟩ | ⟨y, hnp, h5, q1, q2, q3, q4, _, h6, h7⟩
      · rw [h6, h7]
        have hy := (hg.boxes j y h5).2
        unfold mapB
        cases hrow : y.row with
        | true =>
          simp only
          rcases hy.two (.inl hrow) with hy | ⟨g, cur, k1, k2, k4, k5, k6, k7, k9, k8⟩
          · exact .inl (.inl hy)
          · exact .inl (.inr ⟨g, cur, k1, k2, k4, k5, k6, k7, k9, fun i j e c he hc => (((k8 i j e c he hc).rc (k9 hrow e (List.mem_of_getElem? he) c (List.mem_of_getElem? hc))).mono (fun _ _ _ => rfl) (Nat.le_refl _) fun g _ hm => sub g hm).mc⟩)
        | false =>
          simp only
          rcases hy with (⟨_, _, hy⟩ | ⟨g, cur, k1, k2, k4, k5, k6, k7, k9, k8⟩) | ⟨k1, k2, k0, g, es, clk, k3, k4⟩
          · rw [hrow] at hy; cases hy
          · refine .inl (.inr ⟨g, cur, k1, k2, k4, by simpa using k5, k6, fun e he => ?_, fun h => by simp at h, fun i j e c he hc => ?_⟩)
            · simp only [List.mem_map] at he
              obtain ⟨e', he', rfl⟩ := he
              simpa using k7 e' he'
            · simp only [List.getElem?_map, Option.map_eq_some_iff] at he
              obtain ⟨e', he', rfl⟩ := he
              simp only [List.getElem?_map, Option.map_eq_some_iff] at hc
              obtain ⟨c', hc', rfl⟩ := hc
              exact hM2 _ _ (k8 i j e' c' he' hc')
          · exact .inr ⟨by simp [k1], rfl, k0, g, es, clk, k3, k4⟩
      · rw [h6, h7]
        have hold := ((h.boxes c y h5).heap (w' := w') fun g hgb => hg.keeps.block g ((h.boxes c y h5).lt hgb) fun hq => by
          rcases hq with hq | hq
          · exact h.own_rd g ⟨c, y, h5, hgb⟩ hq
          · obtain ⟨b, bx0, p1, p2, p3, p4⟩ := ren_has hI hq
            have := h.inj c b y bx0 g h5 p2 hgb p4
            subst this
            exact hnp p1).mono (fun v cc hcc =>
          hcc.mono (w' := w') (Mt' := X.mt S β1 Rd') (Rd' := Rd') (H' := hOf S β1 cp1) (K := fun _ => True) (fun g hl hm => hkeep g hl (fun ho => hm (.inr (.inl ho))) (fun hr => hm (.inr (.inr hr)))) hg.keeps.size mtold hg.rd (cIds_all cc) (fun c _ _ _ _ v => hH c v))
        cases bx; cases y
        simp only at q1 q2 q3 q4
        subst q1 q2 q3 q4
        exact hold
  refine ⟨β1, cp1, Rd', G.put (by rw [eenv.2.1]; exact hd) ?_, fun hp => ⟨hg.keeps.size, fun g hl hr => hg.keeps.block g hl fun hq => ?_, fun g hr => (hg.rdge g hr).imp id (·.1)⟩⟩
  · exact (hg.value.mono (K := fun _ => True) (Mt' := X.mt S β1 Rd') (fun _ _ _ => rfl) (Nat.le_refl _) (fun g _ hm => sub g hm) (fun _ h => h) (avIds_all _) (fun _ _ _ _ _ _ h => h)).map hH2
  · rcases hq with hq | hq
    · exact hr hq
    · subst hp
      obtain ⟨b, _, p1, _⟩ := ren_has hI hq
      simp at p1
end
end Go.VE
