/- A part of the engine: what operations do to described states, proved sound against the model. No conditions. -/
import Derived.Test.YtofelomoieamoaaW9c
set_option linter.unusedSimpArgs false
set_option linter.unusedVariables false
namespace Go.VE
open Go

def expHp : Nat → List Box → List (Nat × Option Box)
  | _, [] => []
  | k, b :: r => (k, some b) :: expHp (k + 1) r
def expSt (bs : List Box) : St := ⟨0, 0, [], expHp 0 bs, bs.length, 0⟩

theorem lkB_exp : ∀ (bs : List Box) (k b : Nat), lkB (expHp k bs) b = if k ≤ b then (bs[b - k]?).map some else none
  | [], k, b => by simp [expHp, lkB]
  | x :: r, k, b => by
    simp only [expHp, lkB]
    by_cases h : k = b
    · subst h; simp
    · have e : (k == b) = false := by simpa using h
      rw [e, cond_false, lkB_exp r (k + 1) b]
      by_cases h2 : k ≤ b
      · have : b - k = b - (k + 1) + 1 := by omega
        rw [if_pos (by omega), if_pos h2, this, List.getElem?_cons_succ]
      · rw [if_neg (by omega), if_neg h2]

theorem exp_box (bs : List Box) (b : Nat) : (expSt bs).box b = bs[b]? := by
  simp only [St.box, expSt, lkB_exp, Nat.zero_le, if_true, Nat.sub_zero]
  cases bs[b]? <;> rfl
theorem exp_keyed (bs : List Box) (b : Nat) : (expSt bs).keyed b ↔ b < bs.length := by
  simp only [St.keyed, expSt, lkB_exp, Nat.zero_le, if_true, Nat.sub_zero]
  cases h : bs[b]? with
  | none => simp; simpa using h
  | some x => simp; exact (List.getElem?_eq_some_iff.1 h).1

/-- What is avoided behind a call. -/
def avoid (Av : Nat → Prop) (bs : List Box) (β : Nat → Option Nat) (Rd' : Nat → Prop) (flat : Bool) (sz : Nat) (g : Nat) : Prop :=
  Av g ∨ has (expSt bs) β g ∨ Rd' g ∨ (flat = true ∧ g < sz)
/-- What is avoided ahead of a call. -/
def avIn (Av : Nat → Prop) (ins : List Box) (β : Nat → Option Nat) (g : Nat) : Prop := Av g ∨ has (expSt ins) β g

/-- What a call hands back. -/
structure Gives (rt : Nat) (sp : Spec) (w w' : World) (Av Rd : Nat → Prop) (pk : Nat) (ins : List Box) (β0 : Nat → Option Nat) (cp0 : Nat → Nat) (v : Value) (r : AV) (bs : List Box) (β : Nat → Option Nat) (cp : Nat → Nat) (Rd' : Nat → Prop) : Prop where
  keeps : Keeps (fun g => Rd g ∨ has (expSt ins) β0 g) w w'
  few : bs.length ≤ ins.length + 8
  long : ins.length ≤ bs.length
  rd : ∀ g, Rd g → Rd' g
  rdge : ∀ g, Rd' g → Rd g ∨ (w.heap.size ≤ g ∧ g < w'.heap.size)
  same : ∀ g, Rd g → RdSame rt w w' g
  rdok : RdOK rt w' (avoid Av bs β Rd' false w.heap.size) Rd' (pk + sp.cost)
  rdnew : ∀ g, Rd' g → ¬ Rd g → ∃ (bv : Value) (p : Nat) (cs : List UInt8), RdB rt w' g bv p ∧ p ≤ pk + sp.cost ∧ cs.length ≤ 2000 ∧
    RC w' (avoid Av bs β Rd' sp.flat w.heap.size) bv (.sl false (cs.map fun b => [.v (.int .u8 b.toNat)]))
  value : MA w' (avoid Av bs β Rd' sp.flat w.heap.size) Rd' (hOf (expSt bs) β cp) v r
  boxes : ∀ b bx, bs[b]? = some bx → bx.fz = false ∧ BoxOK w' (MC w' (avoid Av bs β Rd' sp.flat w.heap.size) Rd' (hOf (expSt bs) β cp)) (β b) (cp b) bx
  org : ∀ b bx g, bs[b]? = some bx → β b = some g → (w.heap.size ≤ g ∨ (b < ins.length ∧ β0 b = some g)) ∧ ¬ Rd' g
  inj : ∀ b b' bx bx' g, bs[b]? = some bx → bs[b']? = some bx' → β b = some g → β b' = some g → b = b'
  pins : ∀ (i : Nat) (bx0 bx : Box), ins[i]? = some bx0 → bs[i]? = some bx → bx0.es.length ≤ bx.es.length ∧ (bx.es.length = bx0.es.length → β i = β0 i ∧ cp i = cp0 i ∧ bx.k = bx0.k)

/-- What a call is handed. -/
structure Takes (rt : Nat) (w : World) (Av Rd : Nat → Prop) (pk : Nat) (args : List AV) (vs : Array Value) (ins : List Box) (β0 : Nat → Option Nat) (cp0 : Nat → Nat) : Prop where
  rdav : ∀ g, Rd g → Av g
  avlt : ∀ g, Av g → g < w.heap.size
  pasav : ∀ g, has (expSt ins) β0 g → ¬ Av g
  rdok : RdOK rt w (avIn Av ins β0) Rd pk
  size : vs.size = args.length
  args : ∀ j x, args[j]? = some x → MA w (avIn Av ins β0) Rd (hOf (expSt ins) β0 cp0) (vs.getD j undef) x
  boxes : ∀ b bx, ins[b]? = some bx → bx.fz = false ∧ BoxOK w (MC w (avIn Av ins β0) Rd (hOf (expSt ins) β0 cp0)) (β0 b) (cp0 b) bx
  inj : ∀ b b' bx bx' g, ins[b]? = some bx → ins[b']? = some bx' → β0 b = some g → β0 b' = some g → b = b'

def Sat (P : Program) (rt : Nat) (f : FuncId) (sp : Spec) : Prop :=
  ∀ (w : World) (Av Rd : Nat → Prop) (pk : Nat) (args : List AV) (vs : Array Value) (ins : List Box) (β0 : Nat → Option Nat) (cp0 : Nat → Nat), Takes rt w Av Rd pk args vs ins β0 cp0 → sp.pre args ins → pk + sp.cost ≤ pickLimit →
    Calls P f vs w fun e w' => ∃ v r bs β cp Rd', e = .returned v ∧ sp.post args ins r bs ∧ Gives rt sp w w' Av Rd pk ins β0 cp0 v r bs β cp Rd'

/-- The called function's row. -/
structure FnRow (P : Program) (f : FuncId) : Prop where
  row : ∃ fn, P.funcs[f]? = some fn ∧ (fn.name == "runtime.NumGoroutine") = false ∧ fn.body.isNone = false

def TabOK (P : Program) (rt : Nat) (tab : Nat → Option Spec) : Prop := ∀ f sp, tab f = some sp → FnRow P f ∧ Sat P rt f sp

/-! Numbers. -/
theorem memN_iff (b : Nat) : ∀ l, memN b l = true ↔ b ∈ l
  | [] => by simp [memN]
  | x :: r => by simp only [memN, Bool.or_eq_true, beq_iff_eq, memN_iff b r, List.mem_cons]; exact or_congr ⟨Eq.symm, Eq.symm⟩ Iff.rfl
theorem idxOf_some {b : Nat} : ∀ {l : List Nat} {k j : Nat}, idxOf b l k = some j → k ≤ j ∧ l[j - k]? = some b
  | [], k, j, h => by cases h
  | x :: r, k, j, h => by
    simp only [idxOf] at h
    cases hx : x == b with
    | true =>
      rw [hx, cond_true, Option.some.injEq] at h
      subst h
      have := eq_of_beq hx
      simp [this]
    | false =>
      rw [hx, cond_false] at h
      obtain ⟨h1, h2⟩ := idxOf_some h
      refine ⟨by omega, ?_⟩
      rw [show j - k = j - (k + 1) + 1 by omega, List.getElem?_cons_succ]
      exact h2
theorem idxOf_none {b : Nat} : ∀ {l : List Nat} {k : Nat}, idxOf b l k = none → b ∉ l
  | [], _, _ => by simp
  | x :: r, k, h => by
    simp only [idxOf] at h
    cases hx : x == b with
    | true => rw [hx, cond_true] at h; cases h
    | false =>
      rw [hx, cond_false] at h
      have h1 := idxOf_none h
      simp only [List.mem_cons, not_or]
      exact ⟨fun e => by rw [e] at hx; simp at hx, h1⟩
theorem distN_inj : ∀ (l : List Nat), distN l = true → ∀ (i j b : Nat), l[i]? = some b → l[j]? = some b → i = j
  | [], _, i, j, b, h, _ => by simp at h
  | x :: r, hd, i, j, b, h1, h2 => by
    simp only [distN, Bool.and_eq_true, Bool.not_eq_true'] at hd
    have hx : x ∉ r := fun hm => by
      have := (memN_iff x r).2 hm
      rw [hd.1] at this; cases this
    cases i with
    | zero => cases j with
      | zero => rfl
      | succ j =>
        simp only [List.getElem?_cons_zero, Option.some.injEq, List.getElem?_cons_succ] at h1 h2
        subst h1
        exact absurd (List.mem_of_getElem? h2) hx
    | succ i => cases j with
      | zero =>
        simp only [List.getElem?_cons_zero, Option.some.injEq, List.getElem?_cons_succ] at h1 h2
        subst h2
        exact absurd (List.mem_of_getElem? h1) hx
      | succ j =>
        simp only [List.getElem?_cons_succ] at h1 h2
        rw [distN_inj r hd.2 i j b h1 h2]

section
variable {w : World} {Mt Rd : Nat → Prop} {H H' : C → Value → Prop} {φ : Nat → Nat}

theorem MC0.map {v : Value} {c : C} (h : MC0 w Mt Rd H v c) (hH : ∀ c b n, hkey c = some (b, n) → ∀ v, H c v → H' (setId (φ b) c) v) : MC0 w Mt Rd H' v (mapC0 φ c) := by
  cases c <;> simp only [MC0, mapC0, hkey, setId] at *
  case own b n t => exact ⟨h.1, hH (.own b n t) b n rfl _ h.2⟩
  case vw b n lo hi => exact ⟨h.1, hH (.vw b n lo hi) b n rfl _ h.2⟩
  case ptr b n i off => exact ⟨h.1, hH (.ptr b n i off) b n rfl _ h.2⟩
  all_goals exact h
theorem MC.map {v : Value} {c : C} (h : MC w Mt Rd H v c) (hH : ∀ c b n, hkey c = some (b, n) → ∀ v, H c v → H' (setId (φ b) c) v) : MC w Mt Rd H' v (mapC φ c) := by
  cases c
  case fn f caps =>
    obtain ⟨arr, e, hs, hr⟩ := h
    refine ⟨arr, e, by simpa using hs, fun j c hj => ?_⟩
    simp only [List.getElem?_map, Option.map_eq_some_iff] at hj
    obtain ⟨c', hc', rfl⟩ := hj
    exact (hr j c' hc').map hH
  all_goals (simp only [MC, mapC] at h ⊢; exact MC0.map (φ := φ) h hH)
theorem MA1.map {v : Value} {x : AV} (h : MA1 w Mt Rd H v x) (hH : ∀ c b n, hkey c = some (b, n) → ∀ v, H c v → H' (setId (φ b) c) v) : MA1 w Mt Rd H' v (mapA1 φ x) := by
  cases x with
  | c x => exact MC.map h hH
  | agg cs =>
    obtain ⟨arr, e, hs, hr⟩ := h
    refine ⟨arr, e, by simpa using hs, fun j c hj => ?_⟩
    simp only [List.getElem?_map, Option.map_eq_some_iff] at hj
    obtain ⟨c', hc', rfl⟩ := hj
    exact (hr j c' hc').map hH
  | tup vs => exact h
  | mp _ _ => exact h.elim
theorem MA.map {v : Value} {x : AV} (h : MA w Mt Rd H v x) (hH : ∀ c b n, hkey c = some (b, n) → ∀ v, H c v → H' (setId (φ b) c) v) : MA w Mt Rd H' v (mapA φ x) := by
  cases x with
  | c x => exact MA1.map (x := .c x) h hH
  | agg cs => exact MA1.map (x := .agg cs) h hH
  | tup vs =>
    obtain ⟨arr, e, hs, h⟩ := h
    refine ⟨arr, e, by simpa using hs, fun j x hj => ?_⟩
    simp only [List.getElem?_map, Option.map_eq_some_iff] at hj
    obtain ⟨x', hx', rfl⟩ := hj
    exact (h j x' hx').map hH
  | mp _ _ => trivial
end

section
variable {P : Program} {X : Cx} {s : St} {a : Act} {w : World} {β : Nat → Option Nat} {cp : Nat → Nat} {Rd : Nat → Prop}

def lendAv (X : Cx) (s : St) (β : Nat → Option Nat) (Rd : Nat → Prop) (ids : List Nat) (g : Nat) : Prop := X.Av0 g ∨ (owns s β g ∧ ∀ b ∈ ids, ∀ bx, s.box b = some bx → β b ≠ some g) ∨ Rd g

theorem lendAv_mt {ids : List Nat} {g : Nat} (h : lendAv X s β Rd ids g) : X.mt s β Rd g := by
  rcases h with h | h | h
  · exact .inl h
  · exact .inr (.inl h.1)
  · exact .inr (.inr h)

/-- Boxes taken over, by their numbers. -/
def renIns (s : St) (F : Box → Box) (ids : List Nat) : List Box := ids.map fun b => F (boxN s b)
def renβ (β : Nat → Option Nat) (ids : List Nat) (j : Nat) : Option Nat := (ids[j]?).bind β
def rencp (cp : Nat → Nat) (ids : List Nat) (j : Nat) : Nat := cp (ids.getD j 0)

theorem boxN_of {b : Nat} {bx : Box} (h : s.box b = some bx) : boxN s b = bx := by simp [boxN, h]

/-- The boxes that are taken over are there, free, and distinct. -/
structure RenOK (s : St) (ids : List Nat) : Prop where
  box : ∀ b ∈ ids, ∃ bx, s.box b = some bx ∧ bx.fz = false
  inj : ∀ (i j b : Nat), ids[i]? = some b → ids[j]? = some b → i = j

theorem ren_get {F : Box → Box} {ids : List Nat} {j : Nat} {bx : Box} (hI : RenOK s ids) (h : (renIns s F ids)[j]? = some bx) : ∃ b bx0, ids[j]? = some b ∧ s.box b = some bx0 ∧ bx0.fz = false ∧ bx = F bx0 ∧ renβ β ids j = β b ∧ rencp cp ids j = cp b := by
  simp only [renIns, List.getElem?_map, Option.map_eq_some_iff] at h
  obtain ⟨b, h1, h2⟩ := h
  obtain ⟨bx0, h3, h4⟩ := hI.box b (List.mem_of_getElem? h1)
  rw [boxN_of h3] at h2
  exact ⟨b, bx0, h1, h3, h4, h2.symm, by simp [renβ, h1], by simp [rencp, List.getD_eq_getElem?_getD, h1]⟩

theorem ren_has {F : Box → Box} {ids : List Nat} (hI : RenOK s ids) {g : Nat} (h : has (expSt (renIns s F ids)) (renβ β ids) g) : ∃ b bx, b ∈ ids ∧ s.box b = some bx ∧ bx.fz = false ∧ β b = some g := by
  obtain ⟨j, bx, h1, h2⟩ := h
  rw [exp_box] at h1
  obtain ⟨b, bx0, h3, h4, h5, _, h6, _⟩ := ren_get (β := β) (cp := fun _ => 0) hI h1
  rw [h6] at h2
  exact ⟨b, bx0, List.mem_of_getElem? h3, h4, h5, h2⟩

/-- A handle, as it is numbered there. -/
theorem ren_handle {F : Box → Box} (hF : ∀ bx, (F bx).es.length = bx.es.length ∧ (F bx).k = bx.k) {ids : List Nat} (hI : RenOK s ids) {c : C} {v : Value} {b n j : Nat} (hk : hkey c = some (b, n)) (hj : idxOf b ids 0 = some j) (h : hOf s β cp c v) :
    hOf (expSt (renIns s F ids)) (renβ β ids) (rencp cp ids) (setId j c) v := by
  obtain ⟨_, h2⟩ := idxOf_some hj
  rw [Nat.sub_zero] at h2
  obtain ⟨bx0, h3, _⟩ := hI.box b (List.mem_of_getElem? h2)
  obtain ⟨b', n', k1, k2, k3⟩ := h
  rw [hk] at k1
  cases k1
  have hlt : j < (renIns s F ids).length := by simpa [renIns] using (List.getElem?_eq_some_iff.1 h2).1
  refine ⟨j, n, hkey_setId hk j, (exp_keyed _ _).2 hlt, fun bx hbx => ?_⟩
  rw [exp_box] at hbx
  obtain ⟨b1, bx1, q1, q2, _, rfl, q3, q4⟩ := ren_get (β := β) (cp := cp) hI hbx
  rw [h2] at q1
  cases q1
  rw [q2] at h3
  cases h3
  rw [(hF bx0).1, (hF bx0).2, q3, q4, hV_setId]
  exact k3 bx0 q2

/-- What the sealed rows are: frozen, or lent. -/
theorem seal_av (h : Good X s a w β cp Rd) {lids ids : List Nat} {F : Box → Box} (hI : RenOK s ids) {cs : List Nat} (hcs : (cs.all fun b => !unfz s b || memN b lids) = true) (hids : ∀ b ∈ lids, b ∉ ids) {Av : Nat → Prop}
    (hAv : ∀ g, Av g → lendAv X s β Rd (lids ++ ids) g) : ∀ b ∈ cs, ∀ bx g, s.box b = some bx → β b = some g → ¬ avIn Av (renIns s F ids) (renβ β ids) g := by
  intro b hb bx g hbx hg hav
  rcases hav with hav | hav
  · rcases hAv g hav with h1 | ⟨⟨b', bx', h1, h2, h3⟩, h4⟩ | h1
    · exact h.own_av g ⟨b, bx, hbx, hg⟩ h1
    · have := h.inj b b' bx bx' g hbx h1 hg h3
      subst this
      rw [hbx] at h1
      cases h1
      have h5 := List.all_eq_true.1 hcs b hb
      simp only [unfz, hbx, h2, Bool.not_false, Bool.not_true, Bool.false_or] at h5
      exact h4 b (List.mem_append_left _ ((memN_iff b lids).1 h5)) bx hbx hg
    · exact h.own_rd g ⟨b, bx, hbx, hg⟩ h1
  · obtain ⟨b', bx', h1, h2, _, h3⟩ := ren_has hI hav
    have := h.inj b b' bx bx' g hbx h2 hg h3
    subst this
    obtain ⟨bx2, h5, h6⟩ := hI.box b h1
    have h7 := List.all_eq_true.1 hcs b hb
    simp only [unfz, h5, h6, Bool.not_false, Bool.not_true, Bool.false_or] at h7
    exact hids b ((memN_iff b lids).1 h7) h1

theorem rowIds_one {c : C} {b : Nat} (h : b ∈ rowIds [c]) : ∃ n, hkey c = some (b, n) := by
  cases c <;> simp_all [rowIds, hkey]

variable {lids ids ids1 : List Nat} {F : Box → Box} {Av : Nat → Prop}

theorem ren0_ok (h : Good X s a w β cp Rd) (hF : ∀ bx, (F bx).es.length = bx.es.length ∧ (F bx).k = bx.k) (hI : RenOK s ids) (hsub : ∀ b j, idxOf b ids1 0 = some j → idxOf b ids 0 = some j) (hids : ∀ b ∈ lids, b ∉ ids) (hAv : ∀ g, Av g → lendAv X s β Rd (lids ++ ids) g) {Rd' : Nat → Prop} (hR : ∀ g, Rd g → Rd' g)
    {v : Value} {c : C} (hm : MC0 w (X.mt s β Rd) Rd (hOf s β cp) v c) (ho : renOk0 s lids ids1 c) : MC0 w (avIn Av (renIns s F ids) (renβ β ids)) Rd' (hOf (expSt (renIns s F ids)) (renβ β ids) (rencp cp ids)) v (renC0 s ids1 c) := by
  have hM : ∀ g, g < w.heap.size → avIn Av (renIns s F ids) (renβ β ids) g → X.mt s β Rd g := by
    rintro g _ (hg | hg)
    · exact lendAv_mt (hAv g hg)
    · obtain ⟨b, bx, _, h2, h3, h4⟩ := ren_has hI hg
      exact .inr (.inl ⟨b, bx, h2, h3, h4⟩)
  have sealed : (∀ f l, c ≠ .fn f l) → sealOk s c → ((rowIds [c]).all fun b => !unfz s b || memN b lids) = true → MC0 w (avIn Av (renIns s F ids) (renβ β ids)) Rd' (hOf (expSt (renIns s F ids)) (renβ β ids) (rencp cp ids)) v (sealC s c) := by
    intro hnf h1 h2
    have hm' : MC w (X.mt s β Rd) Rd (hOf s β cp) v c := by
      cases c with
      | fn f l => exact absurd rfl (hnf f l)
      | _ => simp only [MC]; exact hm
    have := seal_ok (Mt' := avIn Av (renIns s F ids) (renβ β ids)) (Rd' := Rd') (H' := hOf (expSt (renIns s F ids)) (renβ β ids) (rencp cp ids)) h hM hR (ids := rowIds [c]) (seal_av h hI h2 hids hAv) hm' h1 (fun b hb => hb)
    have hnf2 : ∀ f l, sealC s c ≠ .fn f l := by
      intro f l
      cases c with
      | own b n t => simp only [sealC]; split <;> (try split) <;> simp
      | vw b n lo hi => simp only [sealC]; split <;> (try split) <;> simp
      | v x => unfold sealC; split <;> simp_all
      | fn f l => exact absurd rfl (hnf f l)
      | _ => simp [sealC]
    cases hsc : sealC s c with
    | fn f l => exact absurd hsc (hnf2 f l)
    | _ => rw [hsc] at this; simp only [MC] at this; exact this
  unfold renC0
  unfold renOk0 at ho
  split
  · rename_i b n hk
    simp only [hk] at ho
    split
    · rename_i j hj
      have hH : hOf s β cp c v ∧ v.oneCell' = true := by
        cases c <;> first | cases hk; done | exact ⟨hm.2, hm.1⟩
      have := ren_handle (F := F) hF hI hk (hsub b j hj) hH.1
      cases c <;> first | cases hk; done | exact ⟨hH.2, this⟩
    · rename_i hj
      simp only [hj] at ho
      exact sealed (fun f l e => by subst e; cases hk) ho.1 ho.2
  · rename_i hk
    by_cases hfn : ∃ f l, c = .fn f l
    · obtain ⟨f, l, rfl⟩ := hfn; exact hm.elim
    · refine sealed (fun f l e => hfn ⟨f, l, e⟩) (by cases c <;> first | trivial | cases hk) (by cases c <;> first | rfl | cases hk)

theorem renOk0s_get : ∀ {cs : List C} {j : Nat} {c : C}, renOk0s s lids ids1 cs → cs[j]? = some c → renOk0 s lids ids1 c
  | [], _, _, _, h => by simp at h
  | x :: r, 0, c, h, hj => by simp at hj; subst hj; exact h.1
  | x :: r, j + 1, c, h, hj => renOk0s_get h.2 (by simpa using hj)
theorem renOks_get : ∀ {cs : List C} {j : Nat} {c : C}, renOks s lids ids1 cs → cs[j]? = some c → renOk s lids ids1 c
  | [], _, _, _, h => by simp at h
  | x :: r, 0, c, h, hj => by simp at hj; subst hj; exact h.1
  | x :: r, j + 1, c, h, hj => renOks_get h.2 (by simpa using hj)

theorem MC0.mc {Mt Rd : Nat → Prop} {H : C → Value → Prop} {v : Value} {c : C} (h : MC0 w Mt Rd H v c) : MC w Mt Rd H v c := by
  cases c <;> first | exact h.elim | (simp only [MC]; exact h)

theorem ren_ok (h : Good X s a w β cp Rd) (hF : ∀ bx, (F bx).es.length = bx.es.length ∧ (F bx).k = bx.k) (hI : RenOK s ids) (hsub : ∀ b j, idxOf b ids1 0 = some j → idxOf b ids 0 = some j) (hids : ∀ b ∈ lids, b ∉ ids) (hAv : ∀ g, Av g → lendAv X s β Rd (lids ++ ids) g) {Rd' : Nat → Prop} (hR : ∀ g, Rd g → Rd' g)
    {v : Value} {c : C} (hm : MC w (X.mt s β Rd) Rd (hOf s β cp) v c) (ho : renOk s lids ids1 c) : MC w (avIn Av (renIns s F ids) (renβ β ids)) Rd' (hOf (expSt (renIns s F ids)) (renβ β ids) (rencp cp ids)) v (renC s ids1 c) := by
  cases c with
  | fn f caps =>
    obtain ⟨arr, rfl, hs, hr⟩ := hm
    refine ⟨arr, rfl, by simpa using hs, fun j c hj => ?_⟩
    simp only [List.getElem?_map, Option.map_eq_some_iff] at hj
    obtain ⟨c0, hc0, rfl⟩ := hj
    exact ren0_ok h hF hI hsub hids hAv hR (hr j c0 hc0) (renOk0s_get ho hc0)
  | _ => simp only [MC] at hm; exact (ren0_ok h hF hI hsub hids hAv hR hm ho).mc

theorem renA1_ok (h : Good X s a w β cp Rd) (hF : ∀ bx, (F bx).es.length = bx.es.length ∧ (F bx).k = bx.k) (hI : RenOK s ids) (hsub : ∀ b j, idxOf b ids1 0 = some j → idxOf b ids 0 = some j) (hids : ∀ b ∈ lids, b ∉ ids) (hAv : ∀ g, Av g → lendAv X s β Rd (lids ++ ids) g) {Rd' : Nat → Prop} (hR : ∀ g, Rd g → Rd' g)
    {v : Value} {x : AV} (hm : MA1 w (X.mt s β Rd) Rd (hOf s β cp) v x) (ho : renOks s lids ids1 (cellsOf x)) : MA1 w (avIn Av (renIns s F ids) (renβ β ids)) Rd' (hOf (expSt (renIns s F ids)) (renβ β ids) (rencp cp ids)) v (renA1 s ids1 x) := by
  cases x with
  | c x => exact ren_ok h hF hI hsub hids hAv hR hm ho.1
  | agg cs =>
    obtain ⟨arr, rfl, hs, hr⟩ := hm
    refine ⟨arr, rfl, by simpa using hs, fun j c hj => ?_⟩
    simp only [List.getElem?_map, Option.map_eq_some_iff] at hj
    obtain ⟨c0, hc0, rfl⟩ := hj
    exact ren_ok h hF hI hsub hids hAv hR (hr j c0 hc0) (renOks_get ho hc0)
  | tup vs => exact hm.elim
  | mp _ _ => trivial

theorem renB_fit (ids' : List Nat) (bx : Box) : (renB s ids' bx).es.length = bx.es.length ∧ (renB s ids' bx).k = bx.k := by
  unfold renB; split <;> simp

/-- A box that is taken over. -/
theorem renB_ok (h : Good X s a w β cp Rd) (hI : RenOK s ids) (hids : ∀ b ∈ lids, b ∉ ids) (hAv : ∀ g, Av g → lendAv X s β Rd (lids ++ ids) g) {Rd' : Nat → Prop} (hR : ∀ g, Rd g → Rd' g) {b : Nat} {bx : Box} (hbx : s.box b = some bx)
    (ho : bx.row = false → renOks s lids ids bx.es.flatten) : BoxOK w (MC w (avIn Av (renIns s (renB s ids) ids) (renβ β ids)) Rd' (hOf (expSt (renIns s (renB s ids) ids)) (renβ β ids) (rencp cp ids))) (β b) (cp b) (renB s ids bx) := by
  have hM : ∀ g, g < w.heap.size → avIn Av (renIns s (renB s ids) ids) (renβ β ids) g → X.mt s β Rd g := by
    rintro g _ (hg | hg)
    · exact lendAv_mt (hAv g hg)
    · obtain ⟨b, bx, _, h2, h3, h4⟩ := ren_has hI hg
      exact .inr (.inl ⟨b, bx, h2, h3, h4⟩)
  have hB := h.boxes b bx hbx
  unfold renB
  cases hrow : bx.row with
  | true =>
    simp only
    rcases hB.two (.inl hrow) with hB | ⟨g, cur, h1, h2, h4, h5, h6, h7, h9, h8⟩
    · exact .inl (.inl hB)
    · exact .inl (.inr ⟨g, cur, h1, h2, h4, h5, h6, h7, h9, fun i j e c he hc => (((h8 i j e c he hc).rc (h9 hrow e (List.mem_of_getElem? he) c (List.mem_of_getElem? hc))).mono (fun _ _ _ => rfl) (Nat.le_refl _) hM).mc⟩)
  | false =>
    simp only
    rcases hB with (⟨_, _, hB⟩ | ⟨g, cur, h1, h2, h4, h5, h6, h7, h9, h8⟩) | ⟨h1, h2, h0, g, es, clk, h3, h4⟩
    · rw [hrow] at hB; cases hB
    · refine .inl (.inr ⟨g, cur, h1, h2, h4, by simpa using h5, h6, ?_, fun h => by simp at h, ?_⟩)
      · intro e he
        simp only [List.mem_map] at he
        obtain ⟨e0, he0, rfl⟩ := he
        simpa using h7 e0 he0
      · intro i j e c he hc
        simp only [List.getElem?_map, Option.map_eq_some_iff] at he
        obtain ⟨e0, he0, rfl⟩ := he
        simp only [List.getElem?_map, Option.map_eq_some_iff] at hc
        obtain ⟨c0, hc0, rfl⟩ := hc
        have hmem : c0 ∈ bx.es.flatten := List.mem_flatten.2 ⟨e0, List.mem_of_getElem? he0, List.mem_of_getElem? hc0⟩
        obtain ⟨q, hq, hqe⟩ := List.getElem_of_mem hmem
        have := renOks_get (ho hrow) (List.getElem?_eq_getElem hq)
        rw [hqe] at this
        exact ren_ok h (renB_fit ids) hI (fun _ _ h => h) hids hAv hR (h8 i j e0 c0 he0 hc0) this
    · exact .inr ⟨by simp [h1], rfl, h0, g, es, clk, h3, h4⟩
end
end Go.VE
