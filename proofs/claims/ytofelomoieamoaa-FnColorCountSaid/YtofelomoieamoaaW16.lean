/- A part of the engine: what operations do to described states, proved sound against the model. No conditions. -/
import Derived.Test.YtofelomoieamoaaW15
set_option linter.unusedSimpArgs false
set_option linter.unusedVariables false
namespace Go.VE
open Go

theorem expBoxes_ren (s : St) (ids : List Nat) : ∀ l, expBoxes s ids l = renIns s (expB s ids) l
  | [] => rfl
  | b :: r => by simp only [expBoxes, renIns, List.map_cons]; rw [expBoxes_ren s ids r]; rfl
theorem expB_fit (s : St) (ids : List Nat) (bx : Box) : (expB s ids bx).es.length = bx.es.length ∧ (expB s ids bx).k = bx.k ∧ (expB s ids bx).fz = bx.fz ∧ (expB s ids bx).row = bx.row ∧ (expB s ids bx).ty = bx.ty := by
  unfold expB; split <;> simp_all

section
variable {X : Cx} {s : St} {a : Act} {w : World} {β : Nat → Option Nat} {cp : Nat → Nat} {Rd : Nat → Prop}

theorem expBs_box {ids : List Nat} {flat : Bool} : ∀ {l : List Nat}, expBs s ids flat l → ∀ b ∈ l, ∃ bx, s.box b = some bx ∧ bx.fz = false ∧ (bx.row = true → flat = true → pureV bx.es) ∧ (bx.row = false → expOks s ids bx.es.flatten ∧ (flat = true → flatOks s ids bx.es.flatten))
  | [], _, b, hb => by simp at hb
  | x :: r, h, b, hb => by
    obtain ⟨h1, h2⟩ := h
    rcases List.mem_cons.1 hb with rfl | hb
    · cases hbx : s.box b with
      | none => rw [hbx] at h1; exact h1.elim
      | some bx =>
        rw [hbx] at h1
        refine ⟨bx, rfl, h1.1, fun hr => ?_, fun hr => ?_⟩ <;> (have := h1.2; rw [hr] at this; exact this)
    · exact expBs_box h2 b hb

/-- What is handed back, and how. -/
structure ExpOK (X : Cx) (s : St) (ids : List Nat) : Prop where
  ren : RenOK s ids
  pre : ∀ b, b < s.np → b ∈ ids

abbrev eAv (X : Cx) (s : St) (β : Nat → Option Nat) (ids : List Nat) (flat : Bool) : Nat → Prop := avoid X.Av0 (renIns s (expB s ids) ids) (renβ β ids) X.Rd0 flat X.w0.heap.size

theorem eAv_mt (h : Good X s a w β cp Rd) {ids : List Nat} (hE : ExpOK X s ids) {flat : Bool} {g : Nat} (hg : eAv X s β ids flat g) : X.mt s β Rd g ∨ (flat = true ∧ g < X.w0.heap.size) := by
  rcases hg with hg | hg | hg | hg
  · exact .inl (.inl hg)
  · obtain ⟨b, bx, _, h2, h3, h4⟩ := ren_has hE.ren hg
    exact .inl (.inr (.inl ⟨b, bx, h2, h3, h4⟩))
  · exact .inl (.inr (.inr (h.rd0 g hg)))
  · exact .inr hg

/-- A box that stays behind is new. -/
theorem stays_new (h : Good X s a w β cp Rd) {ids : List Nat} (hE : ExpOK X s ids) {flat : Bool} {b : Nat} {bx : Box} (hb : b ∉ ids) (hbx : s.box b = some bx) {g : Nat} (hg : β b = some g) : ¬ eAv X s β ids flat g := by
  have hnew : X.w0.heap.size ≤ g := by
    rcases h.org b bx g hbx hg with h1 | ⟨q, h1, _⟩
    · exact h1
    · have := (List.getElem?_eq_some_iff.1 h1).1
      rw [h.npin] at this
      exact absurd (hE.pre b this) hb
  rintro (h1 | h1 | h1 | h1)
  · exact h.own_av g ⟨b, bx, hbx, hg⟩ h1
  · obtain ⟨b', bx', h2, h3, _, h4⟩ := ren_has hE.ren h1
    have := h.inj b b' bx bx' g hbx h3 hg h4
    subst this
    exact hb h2
  · exact h.own_rd g ⟨b, bx, hbx, hg⟩ (h.rd0 g h1)
  · have := h1.2; omega

variable {ids : List Nat} {flat : Bool}

theorem pureV_rc {es : List (List C)} (hp : pureV es) {Mt Mt' : Nat → Prop} {v : Value} {c : C} (hc : ∃ e ∈ es, c ∈ e) (h : RC w Mt v c) : RC w Mt' v c := by
  obtain ⟨e, h1, h2⟩ := hc
  have := hp e h1 c h2
  cases c with
  | v x => cases h with | v _ hx => exact RC.v _ hx
  | _ => cases this

theorem exp0_ok (h : Good X s a w β cp Rd) (hE : ExpOK X s ids) {v : Value} {c : C} (hm : MC0 w (X.mt s β Rd) Rd (hOf s β cp) v c) (ho : expOk0 s ids c) (hf : flat = true → flatOk0 s ids c) :
    MC0 w (eAv X s β ids flat) X.Rd0 (hOf (expSt (renIns s (expB s ids) ids)) (renβ β ids) (rencp cp ids)) v (expC0 s ids c) := by
  have hM : flat = false → ∀ g, g < w.heap.size → eAv X s β ids flat g → X.mt s β Rd g := fun hfl g _ hg => (eAv_mt h hE hg).resolve_right fun hh => by rw [hfl] at hh; cases hh.1
  have hmono : ∀ v c', (flat = true → okV c' = true) → RC w (X.mt s β Rd) v c' → RC w (eAv X s β ids flat) v c' := by
    intro v c' hv hr
    cases hfl : flat with
    | false => subst hfl; exact hr.mono (fun _ _ _ => rfl) (Nat.le_refl _) (hM rfl)
    | true =>
      have := hv hfl
      cases c' with
      | v x => cases hr with | v _ hx => exact RC.v _ hx
      | _ => cases this
  -- rows that stay behind
  have stay : ∀ b n, hkey c = some (b, n) → (∀ f l, c ≠ .fn f l) → sealOk s c → idxOf b ids 0 = none → (flat = true → match s.box b with | some bx => pureV bx.es | none => True) →
      MC0 w (eAv X s β ids flat) X.Rd0 (hOf (expSt (renIns s (expB s ids) ids)) (renβ β ids) (rencp cp ids)) v (sealC s c) := by
    intro b n hk hnf h1 hj h2
    have hm' : MC w (X.mt s β Rd) Rd (hOf s β cp) v c := hm.mc
    have hrow : ∀ b' ∈ rowIds [c], b' = b := fun b' hb' => by
      obtain ⟨n', hn'⟩ := rowIds_one hb'
      rw [hk] at hn'
      cases hn'; rfl
    have := seal_okC (Mt' := eAv X s β ids flat) (Rd' := Rd) (H' := hOf (expSt (renIns s (expB s ids) ids)) (renβ β ids) (rencp cp ids)) h (fun _ h => h) (ids := [b])
      (fun b' hb' bx g hbx hg => by
        simp only [List.mem_singleton] at hb'
        subst hb'
        exact stays_new h hE (idxOf_none hj) hbx hg)
      (fun v c' hc' hr => hmono v c' (fun hfl => by
        rcases hc' with rfl | ⟨x, rfl⟩ | ⟨b', bx, hb', hbx, e, he, hce⟩
        · cases hr <;> cases hk
        · cases hk
        · rw [hrow b' hb'] at hbx
          have := h2 hfl
          rw [hbx] at this
          exact this e he c' hce) hr) hm' h1 (fun b' hb' => by rw [hrow b' hb']; simp)
    cases c with
    | own b' n' t =>
      simp only [sealC] at this ⊢
      split
      · rename_i bx hbx
        rw [hbx] at this
        simp only at this
        split
        · rename_i hr; rw [hr] at this; exact this
        · trivial
      · trivial
    | vw b' n' lo hi =>
      simp only [sealC] at this ⊢
      split
      · rename_i bx hbx
        rw [hbx] at this
        simp only at this
        split
        · rename_i hr; rw [hr] at this; exact this
        · trivial
      · trivial
    | ptr b' n' i off => trivial
    | _ => cases hk
  cases c with
  | rdr => trivial
  | own b n t =>
    simp only [expC0, renC0, hkey]
    simp only [expOk0, flatOk0, hkey] at ho hf
    split
    · rename_i j hj
      exact ⟨hm.1, ren_handle (F := expB s ids) (fun bx => ⟨(expB_fit s ids bx).1, (expB_fit s ids bx).2.1⟩) hE.ren rfl hj hm.2⟩
    · rename_i hj
      simp only [hj] at ho hf
      exact stay b n rfl (fun _ _ e => by cases e) ho hj hf
  | vw b n lo hi =>
    simp only [expC0, renC0, hkey]
    simp only [expOk0, flatOk0, hkey] at ho hf
    split
    · rename_i j hj
      exact ⟨hm.1, ren_handle (F := expB s ids) (fun bx => ⟨(expB_fit s ids bx).1, (expB_fit s ids bx).2.1⟩) hE.ren rfl hj hm.2⟩
    · rename_i hj
      simp only [hj] at ho hf
      exact stay b n rfl (fun _ _ e => by cases e) ho hj hf
  | ptr b n i off =>
    simp only [expC0, renC0, hkey]
    split
    · rename_i j hj
      exact ⟨hm.1, ren_handle (F := expB s ids) (fun bx => ⟨(expB_fit s ids bx).1, (expB_fit s ids bx).2.1⟩) hE.ren rfl hj hm.2⟩
    · trivial
  | v x =>
    simp only [expC0, renC0, hkey]
    have hm' : RC w (X.mt s β Rd) v (.v x) := hm
    unfold sealC
    split
    · rename_i he; cases he
    · rename_i he; cases he
    · rename_i he
      cases he
      cases hm' with
      | v _ _ => exact RC.sl true [] 0 none ⟨0, 0, none⟩ 0 0 rfl (fun _ => rfl) (Nat.le_refl _) (by simp [maxLen]) (by simp) (fun h => absurd rfl h) (fun _ _ => undef) (by simp) (by simp)
    · rename_i he; cases he
    · rename_i he; cases he
    · rename_i he; cases he
    · rename_i he; cases he
    · exact hmono _ _ (fun _ => rfl) hm'
  | sl t es => exact hmono _ _ (fun hfl => (hf hfl).elim) hm
  | rp cs => exact hmono _ _ (fun hfl => (hf hfl).elim) hm
  | ex x c => exact ⟨hm.1, hmono _ _ (fun hfl => (hf hfl).elim) hm.2⟩
  | fn f caps => exact hm.elim
  | und => trivial
  | bot => trivial

theorem expOk0s_get : ∀ {cs : List C} {j : Nat} {c : C}, expOk0s s ids cs → cs[j]? = some c → expOk0 s ids c
  | [], _, _, _, h => by simp at h
  | x :: r, 0, c, h, hj => by simp at hj; subst hj; exact h.1
  | x :: r, j + 1, c, h, hj => expOk0s_get h.2 (by simpa using hj)
theorem expOks_get : ∀ {cs : List C} {j : Nat} {c : C}, expOks s ids cs → cs[j]? = some c → expOk s ids c
  | [], _, _, _, h => by simp at h
  | x :: r, 0, c, h, hj => by simp at hj; subst hj; exact h.1
  | x :: r, j + 1, c, h, hj => expOks_get h.2 (by simpa using hj)
theorem flatOk0s_get : ∀ {cs : List C} {j : Nat} {c : C}, flatOk0s s ids cs → cs[j]? = some c → flatOk0 s ids c
  | [], _, _, _, h => by simp at h
  | x :: r, 0, c, h, hj => by simp at hj; subst hj; exact h.1
  | x :: r, j + 1, c, h, hj => flatOk0s_get h.2 (by simpa using hj)
theorem flatOks_get : ∀ {cs : List C} {j : Nat} {c : C}, flatOks s ids cs → cs[j]? = some c → flatOk s ids c
  | [], _, _, _, h => by simp at h
  | x :: r, 0, c, h, hj => by simp at hj; subst hj; exact h.1
  | x :: r, j + 1, c, h, hj => flatOks_get h.2 (by simpa using hj)
theorem expOks_left : ∀ {l r : List C}, expOks s ids (l ++ r) → expOks s ids l ∧ expOks s ids r
  | [], _, h => ⟨trivial, h⟩
  | _ :: _, _, h => let ⟨a, b⟩ := expOks_left h.2; ⟨⟨h.1, a⟩, b⟩
theorem flatOks_left : ∀ {l r : List C}, flatOks s ids (l ++ r) → flatOks s ids l ∧ flatOks s ids r
  | [], _, h => ⟨trivial, h⟩
  | _ :: _, _, h => let ⟨a, b⟩ := flatOks_left h.2; ⟨⟨h.1, a⟩, b⟩

theorem exp_ok (h : Good X s a w β cp Rd) (hE : ExpOK X s ids) {v : Value} {c : C} (hm : MC w (X.mt s β Rd) Rd (hOf s β cp) v c) (ho : expOk s ids c) (hf : flat = true → flatOk s ids c) :
    MC w (eAv X s β ids flat) X.Rd0 (hOf (expSt (renIns s (expB s ids) ids)) (renβ β ids) (rencp cp ids)) v (expC s ids c) := by
  cases c with
  | fn f caps =>
    obtain ⟨arr, rfl, hs, hr⟩ := hm
    refine ⟨arr, rfl, by simpa using hs, fun j c hj => ?_⟩
    simp only [List.getElem?_map, Option.map_eq_some_iff] at hj
    obtain ⟨c0, hc0, rfl⟩ := hj
    exact exp0_ok h hE (hr j c0 hc0) (expOk0s_get ho hc0) fun hfl => flatOk0s_get (hf hfl) hc0
  | _ => simp only [MC] at hm; exact (exp0_ok h hE hm ho hf).mc

theorem expA1_ok (h : Good X s a w β cp Rd) (hE : ExpOK X s ids) {v : Value} {x : AV} (hm : MA1 w (X.mt s β Rd) Rd (hOf s β cp) v x) (ho : expOks s ids (cellsOf x)) (hf : flat = true → flatOks s ids (cellsOf x)) :
    MA1 w (eAv X s β ids flat) X.Rd0 (hOf (expSt (renIns s (expB s ids) ids)) (renβ β ids) (rencp cp ids)) v (expA1 s ids x) := by
  cases x with
  | c x => exact exp_ok h hE hm ho.1 fun hfl => (hf hfl).1
  | agg cs =>
    obtain ⟨arr, rfl, hs, hr⟩ := hm
    refine ⟨arr, rfl, by simpa using hs, fun j c hj => ?_⟩
    simp only [List.getElem?_map, Option.map_eq_some_iff] at hj
    obtain ⟨c0, hc0, rfl⟩ := hj
    exact exp_ok h hE (hr j c0 hc0) (expOks_get ho hc0) fun hfl => flatOks_get (hf hfl) hc0
  | tup vs => exact hm.elim
  | mp _ _ => exact hm.elim

theorem catCells_get : ∀ {vs : List AV} {j : Nat} {x : AV}, expOks s ids (catCells vs) → vs[j]? = some x → expOks s ids (cellsOf x)
  | [], _, _, _, h => by simp at h
  | x :: r, 0, c, h, hj => by simp at hj; subst hj; exact (expOks_left h).1
  | x :: r, j + 1, c, h, hj => catCells_get (expOks_left h).2 (by simpa using hj)
theorem catCells_flat : ∀ {vs : List AV} {j : Nat} {x : AV}, flatOks s ids (catCells vs) → vs[j]? = some x → flatOks s ids (cellsOf x)
  | [], _, _, _, h => by simp at h
  | x :: r, 0, c, h, hj => by simp at hj; subst hj; exact (flatOks_left h).1
  | x :: r, j + 1, c, h, hj => catCells_flat (flatOks_left h).2 (by simpa using hj)

theorem expA_ok (h : Good X s a w β cp Rd) (hE : ExpOK X s ids) {v : Value} {x : AV} (hm : MA w (X.mt s β Rd) Rd (hOf s β cp) v x) (ho : expOks s ids (allCells x)) (hf : flat = true → flatOks s ids (allCells x)) :
    MA w (eAv X s β ids flat) X.Rd0 (hOf (expSt (renIns s (expB s ids) ids)) (renβ β ids) (rencp cp ids)) v (expA s ids x) := by
  cases x with
  | c x => exact expA1_ok (x := .c x) h hE hm ho hf
  | agg cs => exact expA1_ok (x := .agg cs) h hE hm ho hf
  | mp _ _ => trivial
  | tup vs =>
    obtain ⟨arr, rfl, hs, hr⟩ := hm
    refine ⟨arr, rfl, by simpa using hs, fun j x hj => ?_⟩
    simp only [List.getElem?_map, Option.map_eq_some_iff] at hj
    obtain ⟨x0, hx0, rfl⟩ := hj
    exact expA1_ok h hE (hr j x0 hx0) (catCells_get ho hx0) fun hfl => catCells_flat (hf hfl) hx0

/-- A box that is handed back. -/
theorem expB_ok (h : Good X s a w β cp Rd) (hE : ExpOK X s ids) {b : Nat} {bx : Box} (hbx : s.box b = some bx) (h1 : bx.row = true → flat = true → pureV bx.es) (h2 : bx.row = false → expOks s ids bx.es.flatten ∧ (flat = true → flatOks s ids bx.es.flatten)) :
    BoxOK w (MC w (eAv X s β ids flat) X.Rd0 (hOf (expSt (renIns s (expB s ids) ids)) (renβ β ids) (rencp cp ids))) (β b) (cp b) (expB s ids bx) := by
  have hB := h.boxes b bx hbx
  unfold expB
  cases hrow : bx.row with
  | true =>
    simp only
    rcases hB.two (.inl hrow) with hB | ⟨g, cur, k1, k2, k4, k5, k6, k7, k9, k8⟩
    · exact .inl (.inl hB)
    · refine .inl (.inr ⟨g, cur, k1, k2, k4, k5, k6, k7, k9, fun i j e c he hc => ?_⟩)
      have hr := (k8 i j e c he hc).rc (k9 hrow e (List.mem_of_getElem? he) c (List.mem_of_getElem? hc))
      cases hfl : flat with
      | true => exact (pureV_rc (h1 hrow hfl) ⟨e, List.mem_of_getElem? he, List.mem_of_getElem? hc⟩ hr).mc
      | false => exact (hr.mono (fun _ _ _ => rfl) (Nat.le_refl _) fun g _ hg => (eAv_mt h hE hg).resolve_right fun hh => by cases hh.1).mc
  | false =>
    simp only
    rcases hB with (⟨_, _, hB⟩ | ⟨g, cur, k1, k2, k4, k5, k6, k7, k9, k8⟩) | ⟨k1, k2, k0, g, es, clk, k3, k4⟩
    · rw [hrow] at hB; cases hB
    · obtain ⟨q1, q2⟩ := h2 hrow
      refine .inl (.inr ⟨g, cur, k1, k2, k4, by simpa using k5, k6, fun e he => ?_, fun h => by simp at h, fun i j e c he hc => ?_⟩)
      · simp only [List.mem_map] at he
        obtain ⟨e', he', rfl⟩ := he
        simpa using k7 e' he'
      · simp only [List.getElem?_map, Option.map_eq_some_iff] at he
        obtain ⟨e', he', rfl⟩ := he
        simp only [List.getElem?_map, Option.map_eq_some_iff] at hc
        obtain ⟨c', hc', rfl⟩ := hc
        have hmem : c' ∈ bx.es.flatten := List.mem_flatten.2 ⟨e', List.mem_of_getElem? he', List.mem_of_getElem? hc'⟩
        obtain ⟨q, hq, hqe⟩ := List.getElem_of_mem hmem
        have e1 := List.getElem?_eq_getElem hq
        rw [hqe] at e1
        exact exp_ok h hE (k8 i j e' c' he' hc') (expOks_get q1 e1) fun hfl => flatOks_get (q2 hfl) e1
    · exact .inr ⟨by simp [k1], rfl, k0, g, es, clk, k3, k4⟩
end
end Go.VE
